/- Deny: grants. -/
import Derived.Test.YtifliohljcafgaaDoorNmR
import Derived.Test.YtifliohljcafgaaDoorOpenRows
namespace Go.Proofs.YtifliohljcafgaaDoor
open Go.RowKit

theorem below_grow (w : World) (o : Obj) : Below w.heap.size w (w.alloc o) := (Below.refl _ _).alloc (Nat.le_refl _) o
abbrev Gr := ByteArray × Int
def grv (x : Gr) : List Value := [.string x.1, .int .i64 x.2]
def Grs (w : World) (A : Option Addr) (n : Nat) (gs : List Gr) : Prop := Rws w 2 A n (gs.map grv)
theorem Grs.keep {w w' : World} {A : Option Addr} {n : Nat} {gs : List Gr} (h : Grs w A n gs) (hb : Below w.heap.size w w') : Grs w' A n gs := Rws.keep h hb
theorem Grs.len {w : World} {A : Option Addr} {n : Nat} {gs : List Gr} (h : Grs w A n gs) : gs.length = n := by simpa using h.1
theorem Grs.at_ {w : World} {A : Option Addr} {n : Nat} {gs : List Gr} (h : Grs w A n gs) {j : Nat} (hj : j < n) :
    ∃ b off x, A = some ⟨b, off, none⟩ ∧ b < w.heap.size ∧ gs[j]? = some x ∧ w.cell? ⟨b, off + j * 2, none⟩ = some (.string x.1) ∧ w.cell? ⟨b, off + j * 2 + 1, none⟩ = some (.int .i64 x.2) := by
  obtain ⟨b, off, z, e, hlt, hz, _, hr⟩ := Rws.row h hj
  rw [List.getElem?_map] at hz
  cases he : gs[j]? with
  | none => rw [he] at hz; cases hz
  | some x =>
    rw [he] at hz
    simp only [Option.map_some, Option.some.injEq] at hz
    subst hz
    exact ⟨b, off, x, e, hlt, rfl, by simpa using hr 0 _ rfl, by simpa using hr 1 _ rfl⟩
def grOne (x : Gr) : Int := if userB x.1 then (if x.2 < 0 ∨ 15 < x.2 then 5 else 0) else 3
def grN : List Gr → Int
  | [] => 0
  | x :: r => if grOne x = 0 then grN r else grOne x
def grantsN (gs : List Gr) : Int := if 16 < gs.length then 2 else grN gs
theorem grN_step {gs : List Gr} {k : Nat} {x : Gr} (h : gs[k]? = some x) : grN (gs.drop k) = if grOne x = 0 then grN (gs.drop (k + 1)) else grOne x := by
  obtain ⟨hk, hx⟩ := List.getElem?_eq_some_iff.1 h
  rw [List.drop_eq_getElem_cons hk, hx]
  rfl
set_option maxHeartbeats 1000000 in
theorem grants_any (gs : List Gr) (A : Option Addr) (n c : Nat) (w : World) (hn : n ≤ 9223372036854775807) (H : Grs w A n gs) (hs : ∀ x ∈ gs, x.1.size ≤ 9223372036854775807) :
    Calls Tryd.prog 34 #[.slice A n c] w fun r w' => r = .returned (.int .i64 (grantsN gs)) ∧ Below w.heap.size w w' := by
  have hlen := H.len
  by_cases h16 : 16 < n
  · have hv := Lib.hid (show grantsN gs = 2 by unfold grantsN; rw [if_pos (by omega)])
    clear H hs hlen
    go_enter Tryd.func34, Tryd.ntmps34
    go_wp2
    go_ret
    exact ⟨ret_int hv.out.symm, Below.refl _ _⟩
  · have hv0 := Lib.hid (show grantsN gs = grN gs by unfold grantsN; rw [if_neg (by omega)])
    have hS := Lib.hid hs
    have hL := Lib.hid hlen
    have HH := Lib.hid H
    clear hs hlen H
    have h16' : n ≤ 16 := by omega
    go_enter Tryd.func34, Tryd.ntmps34
    go_wp2
    go_loopw [4, 10] (fun _ i wr => ∃ k : Nat, k ≤ n ∧ i = .int .i64 k ∧ Hid (grN (gs.drop k) = grN gs) ∧ Hid (Below w.heap.size w wr)) (fun _ i _ => n - (intOf i).toNat)
    case atStart => exact ⟨0, by omega, rfl, by simp [Hid], Below.refl _ _⟩
    case round =>
      obtain ⟨k, hk, rfl, hf, hB⟩ := hrel
      by_cases hlt : k < n
      · obtain ⟨b, off, ⟨u, x⟩, rfl, hb, he, c0, c1⟩ := (HH.out.keep hB.out).at_ hlt
        have hz := hS.out _ (List.mem_of_getElem? he)
        have cU := Lib.hid (fun W => user_any u W hz)
        have hst := grN_step he
        have hone : grOne (u, x) = if userB u then (if x < 0 ∨ 15 < x then 5 else 0) else 3 := rfl
        have hl0 : (0 : Int) ≤ (k : Int) := by omega
        have hl1 : (k : Int) < (n : Int) := by omega
        have hBn := Lib.hid (hB.out.trans ((below_grow wr (.cells #[.string u, .int .i64 x] 30)).mono hB.out.size))
        simp only at c0 c1
        clear he hz hb
        generalize userB u = q at cU hone
        cases q with
        | false =>
          have hv := Lib.hid (show grantsN gs = 3 by rw [hv0.out, ← hf.out, hst, hone]; rfl)
          clear hst hone
          go_wp2_with (go_at_call 50; refine (cU.out _).mono ?_; rintro r w4 ⟨rfl, rfl⟩)
          go_ret
          exact ⟨ret_int hv.out.symm, hBn.out⟩
        | true =>
          by_cases hx : x < 0 ∨ 15 < x
          · have hv := Lib.hid (show grantsN gs = 5 by rw [hv0.out, ← hf.out, hst, hone]; simp [hx])
            clear hst hone
            rcases hx with hx | hx
            · go_wp2_with (go_at_call 50; refine (cU.out _).mono ?_; rintro r w4 ⟨rfl, rfl⟩)
              go_ret
              exact ⟨ret_int hv.out.symm, hBn.out⟩
            · have hx0 : ¬ x < 0 := by omega
              have hx16 : 16 ≤ x := by omega
              go_wp2_with (go_at_call 50; refine (cU.out _).mono ?_; rintro r w4 ⟨rfl, rfl⟩)
              go_ret
              exact ⟨ret_int hv.out.symm, hBn.out⟩
          · have hn := Lib.hid (show grN (gs.drop (k + 1)) = grN gs by rw [← hf.out, hst, hone]; simp [hx])
            clear hst hone
            have hx0 : ¬ x < 0 := by omega
            have hx16 : ¬ 16 ≤ x := by omega
            clear hx
            go_wp2_with (go_at_call 50; refine (cU.out _).mono ?_; rintro r w4 ⟨rfl, rfl⟩)
            go_roundw
            case rel => exact ⟨k + 1, by omega, by go_num, hn, hBn⟩
            case measure => simp [intOf]; omega
      · have hd : gs.drop k = [] := List.drop_of_length_le (by rw [hL.out]; omega)
        have hv := Lib.hid (show grantsN gs = 0 by rw [hv0.out, ← hf.out, hd]; rfl)
        clear hd
        go_wp2
        go_ret
        exact ⟨ret_int hv.out.symm, hB.out⟩
end Go.Proofs.YtifliohljcafgaaDoor
