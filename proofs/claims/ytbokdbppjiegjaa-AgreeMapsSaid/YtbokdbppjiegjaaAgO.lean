/- Agree: Rule. -/
import Derived.Test.YtbokdbppjiegjaaAgN
namespace Go.Proofs.Ytbokdbppjiegjaa
open Go.RowKit

def ruleList (B : List Ev) (x : Ev) : List (ByteArray × Bool) := [(wordN 1, b1 B x), (wordN 2, b2 B x), (wordN 3, b3 B x), (wordN 4, b4 B x), (wordN 5, b5 B x), (wordN 6, b6 B x)]
theorem rl_all {es : List Ev} {k : Nat} {x : Ev} {Rs : List Rl} (h : Rs.map (fun R => (R.s, R.b)) = ruleList (es.take k) x) (ha : Rs.all (·.b) = true) : ruleX es k x = ruleS es k x := by
  have : (Rs.map (fun R => (R.s, R.b))).all (·.2) = true := by rw [List.all_map]; exact ha
  rw [h] at this
  simp only [ruleList, List.all_cons, List.all_nil, Bool.and_true, Bool.and_eq_true] at this
  obtain ⟨h1, h2, h3, h4, h5, h6⟩ := this
  unfold ruleX
  rw [if_pos h1, if_pos h2, if_pos h3, if_pos h4, if_pos h5, if_pos h6]
theorem rl_hit {es : List Ev} {k : Nat} {x : Ev} {Rs : List Rl} (h : Rs.map (fun R => (R.s, R.b)) = ruleList (es.take k) x) {j : Nat} {R : Rl} (hj : Rs[j]? = some R) (hR : R.b = false) (ha : (Rs.take j).all (·.b) = true) : wordN (ruleX es k x) = R.s := by
  have h1 : (ruleList (es.take k) x)[j]? = some (R.s, R.b) := by rw [← h, List.getElem?_map, hj]; rfl
  have h2 : ((ruleList (es.take k) x).take j).all (·.2) = true := by rw [← h, ← List.map_take, List.all_map]; exact ha
  rw [hR] at h1
  unfold ruleX
  match j with
  | 0 => simp only [ruleList, List.getElem?_cons_zero, Option.some.injEq, Prod.mk.injEq] at h1; rw [if_neg (by rw [h1.2]; decide), ← h1.1]
  | 1 =>
    simp [ruleList] at h1 h2
    rw [if_pos h2, if_neg (by rw [h1.2]; decide), ← h1.1]
  | 2 =>
    simp [ruleList] at h1 h2
    rw [if_pos h2.1, if_pos h2.2, if_neg (by rw [h1.2]; decide), ← h1.1]
  | 3 =>
    simp [ruleList] at h1 h2
    rw [if_pos h2.1, if_pos h2.2.1, if_pos h2.2.2, if_neg (by rw [h1.2]; decide), ← h1.1]
  | 4 =>
    simp [ruleList] at h1 h2
    rw [if_pos h2.1, if_pos h2.2.1, if_pos h2.2.2.1, if_pos h2.2.2.2, if_neg (by rw [h1.2]; decide), ← h1.1]
  | 5 =>
    simp [ruleList] at h1 h2
    rw [if_pos h2.1, if_pos h2.2.1, if_pos h2.2.2.1, if_pos h2.2.2.2.1, if_pos h2.2.2.2.2, if_neg (by rw [h1.2]; decide), ← h1.1]
  | j + 6 => simp [ruleList] at h1

theorem Rl.one_ (R : Rl) : R.row.toArray.all (·.oneCell') = true := by simp [Rl.row, Value.oneCell']
def rlZ : Array Value := #[.string ByteArray.empty, .nilFunc]
theorem rl_zero : (Try.prog.info? 100).bind (·.zero) = some (.agg rlZ) := by kernel_rfl

attribute [local go_sem ↓] ldE_eq
set_option maxRecDepth 100000 in
set_option maxHeartbeats 8000000 in
theorem rule_any (es : List Ev) (hok : ∀ e ∈ es, allOk evDs e.cells) (A : Option Addr) (n c k : Nat) (x : Ev) (w : World) (hc : n ≤ c) (hn1 : n ≤ 1000000) (hn : c ≤ 9223372036854775807) (H : Evs w A n es) (hx : es[k]? = some x) :
    Calls Try.prog 50 #[.slice A n c, .int .i64 k] w fun r w' => r = .returned (.string (wordN (ruleX es k x))) ∧ Below w.heap.size w w' := by
  have hkl : k < n := by have := (List.getElem?_eq_some_iff.1 hx).1; have := H.len; omega
  obtain ⟨b, off, x', rfl, hb, hx', hr⟩ := H.row hkl
  obtain rfl : x' = x := by rw [hx] at hx'; injection hx' with h; exact h.symm
  obtain ⟨c0, _, _, _⟩ := Ev.flds hr
  have c0 := Lib.hid c0
  have HH := Lib.hid H
  have cO := Lib.hid (fun W (h : Below w.heap.size w W) => order_any x' (es.take k) (some ⟨b, off, none⟩) k c W (by omega) ((HH.out.keep h).take_ (by omega)))
  have cA := Lib.hid (fun W (h : Below w.heap.size w W) => asked_any es (some ⟨b, off, none⟩) n c k x' W hc hn (HH.out.keep h) hx)
  have cS := Lib.hid (fun W (h : Below w.heap.size w W) => source_any es hok (some ⟨b, off, none⟩) n c k x' W hc hn (HH.out.keep h) hx)
  have cT := Lib.hid (fun W (h : Below w.heap.size w W) (s : Nat) => twice_any es hok (some ⟨b, off, none⟩) n c k s x' W hc hn (HH.out.keep h) hx)
  have cW := Lib.hid (fun W => word_any x'.kind W)
  have hsc := srcI_cases es k x'
  have hS := Lib.hid (fun W (h : Below w.heap.size w W) => (ldE_run (rangeAt_keep hr h hb) : (ldE ⟨b, off + k * 34, none⟩).run Try.prog W = .ok (.agg x'.cells.toArray) W))
  have i1 : (0 : Int) ≤ (k : Int) := by omega
  have i2 : (k : Int) < (n : Int) := by omega
  have i3 : (k : Int) ≤ (c : Int) := by omega
  have hB0 := Lib.hid (show Below w.heap.size w w.drew from drewN_below 1)
  clear hr hx hx' hok
  go_enter Try.func50, Try.ntmps50
  go_wp2_with fail
  go_region_held3 (fun W => (ldE ⟨b, off + k * 34, none⟩).run Try.prog W = .ok (.agg x'.cells.toArray) W)
    (first | exact hS.out _ hB0.out | exact hS.out _ hB5.out)
    (first
      | (go_at_call 63; (with_reducible refine (cO.out _ hB0.out).mono ?_); rintro r w5 ⟨A5, Rs, rfl, hL, hRw, hRok, hb5⟩; have hB5 := Lib.hid (hB0.out.trans (hb5.mono hB0.out.size)); clear hb5; have hL := Lib.hid hL; have hRw := Lib.hid hRw; have hRok := Lib.hid hRok))
  go_wp2_with fail
  go_loopw [6, 26] (fun _ i wr => ∃ m : Nat, m ≤ 6 ∧ i = .int .i64 m ∧ Hid ((Rs.take m).all (·.b) = true) ∧ Hid (Below w5.heap.size w5 wr)) (fun _ i _ => 6 - (intOf i).toNat)
  case atStart => exact ⟨0, by omega, rfl, rfl, Below.refl _ _⟩
  case round =>
    obtain ⟨m, hm, rfl, hf, hB⟩ := hrel
    by_cases hlt : m < 6
    · obtain ⟨b2, off2, z, rfl, hb2, hz, _, hr2⟩ := Rws.row hRw.out hlt
      rw [List.getElem?_map] at hz
      cases hRm : Rs[m]? with
      | none => rw [hRm] at hz; cases hz
      | some R =>
        rw [hRm] at hz
        simp only [Option.map_some, Option.some.injEq] at hz
        subst hz
        have hrR := rangeAt_keep hr2 hB.out hb2
        obtain ⟨eg, hcall⟩ := hRok.out R (List.mem_of_getElem? hRm)
        have hcall := Lib.hid (fun W (h : Below w5.heap.size w5 W) => hcall W h)
        have hall := all_take_succ (fun R : Rl => R.b) hRm
        rw [hf.out, Bool.true_and] at hall
        have hhit := fun h => rl_hit hL.out hRm h hf.out
        have hg1 := heap_new wr (.cells rlZ 100)
        have hB5r := Lib.hid (hB.out.trans ((ag_below wr (.cells R.row.toArray 100)).mono hB.out.size))
        have hR1 := R.one_
        obtain ⟨s, g, lb, q⟩ := R
        simp only [Rl.row] at hrR hB5r hR1
        simp only at eg hcall hall hhit
        clear hr2
        cases q with
        | true =>
          have hall := Lib.hid hall
          clear hhit
          go_wp2_with (first
            | (refine wpList_load_at 100 _ rfl rfl b2 (off2 + m * 2) rfl [.string s, .func (.func g) #[] lb] _ hrR Try.underlying100 rfl (by kernel_rfl) ?_)
            | (refine wpList_alloc_row 100 rfl rfl rlZ rl_zero ?_)
            | (refine wpList_store_at 100 _ _ rfl rfl wr.heap.size #[.string s, .func (.func g) #[] lb] rfl rfl 100 rlZ hg1 (by kernel_rfl) rfl hR1 ?_
               rw [setRow_new]))
          refine (hcall.out _ hB5r.out).mono ?_
          rintro r w6 ⟨rfl, hb6⟩
          go_wp2_with fail
          go_roundw
          case rel => exact ⟨m + 1, by omega, by go_num, hall, hB5r.out.trans (hb6.mono hB5r.out.size)⟩
          case measure => simp [intOf]; omega
        | false =>
          have hH := Lib.hid (hhit rfl)
          clear hhit
          have hsz : wr.heap.size < (wr.alloc (.cells #[.string s, .func (.func g) #[] lb] 100)).heap.size := by simp
          have hcs := cell_of_row (wr.alloc (.cells #[.string s, .func (.func g) #[] lb] 100)) wr.heap.size 0 _ _ _ (heap_new wr (.cells #[.string s, .func (.func g) #[] lb] 100))
          have hcs := Lib.hid (fun W (h : Below (wr.alloc (.cells #[.string s, .func (.func g) #[] lb] 100)).heap.size (wr.alloc (.cells #[.string s, .func (.func g) #[] lb] 100)) W) => ((h.cell (p := ⟨wr.heap.size, 0, none⟩) hsz).trans hcs : W.cell? ⟨wr.heap.size, 0, none⟩ = some (.string s)))
          clear hall hsz
          go_wp2_with (first
            | (refine wpList_load_at 100 _ rfl rfl b2 (off2 + m * 2) rfl [.string s, .func (.func g) #[] lb] _ hrR Try.underlying100 rfl (by kernel_rfl) ?_)
            | (refine wpList_alloc_row 100 rfl rfl rlZ rl_zero ?_)
            | (refine wpList_store_at 100 _ _ rfl rfl wr.heap.size #[.string s, .func (.func g) #[] lb] rfl rfl 100 rlZ hg1 (by kernel_rfl) rfl hR1 ?_
               rw [setRow_new]))
          refine (hcall.out _ hB5r.out).mono ?_
          rintro r w6 ⟨rfl, hb6⟩
          have hcs6 := hcs.out w6 hb6
          go_wp2_with fail
          go_ret
          exact ⟨(congrArg (fun s => Ending.returned (.string s)) hH.out).symm, hB5.out.trans ((hB5r.out.trans (hb6.mono hB5r.out.size)).mono hB5.out.size)⟩
    · obtain rfl : m = 6 := by omega
      have hall : Rs.all (·.b) = true := by
        have h6 : Rs.length = 6 := by have := hRw.out.1; rw [List.length_map] at this; exact this
        have := hf.out
        rw [List.take_of_length_le (by omega)] at this
        exact this
      have hru := rl_all hL.out hall
      have hB6 := Lib.hid (hB5.out.trans (hB.out.mono hB5.out.size))
      have cA6 := cA.out wr hB6.out
      have hv : ruleX es k x' = if askedX es k x' then (if srcI es k x' < 0 then srcWord x'.kind else if twiceB es k x' (srcI es k x') then 10 else 0) else 0 := hru.trans rfl
      generalize askedX es k x' = q at cA6 hv
      have cA6 := Lib.hid cA6
      have hS' := Lib.hid (fun W (h : Below w.heap.size w W) => ((h.cell (p := ⟨b, off + k * 34, none⟩) hb).trans c0.out : W.cell? ⟨b, off + k * 34, none⟩ = some (.int .i64 x'.kind)))
      clear hall hru
      cases q with
      | false =>
        have hv := Lib.hid hv
        go_wp2_with (go_at_call 20; (with_reducible refine cA6.out.mono ?_); rintro r w6 ⟨rfl, hb6⟩)
        go_ret
        exact ⟨(congrArg (fun i => Ending.returned (.string (wordN i))) hv.out).symm, hB6.out.trans (hb6.mono hB6.out.size)⟩
      | true =>
        rw [if_pos rfl] at hv
        rcases hsc with hs | ⟨t, hs, _, _⟩
        · rw [hs, if_pos (by omega)] at hv
          have hV := Lib.hid (show srcV (srcI es k x') = .tuple #[.int .i64 0, .bool false] by rw [hs]; rfl)
          have hv := Lib.hid hv
          clear hs
          go_wp2_with (first
            | (go_at_call 20; (with_reducible refine cA6.out.mono ?_); rintro r w6 ⟨rfl, hb6⟩; have hB7 := Lib.hid (hB6.out.trans (hb6.mono hB6.out.size)); clear hb6)
            | (go_at_call 19; (with_reducible refine (cS.out _ hB7.out).mono ?_); rintro r w7 ⟨rfl, hb7⟩; rw [hV.out]; have hB8 := Lib.hid (hB7.out.trans (hb7.mono hB7.out.size)); clear hb7; have hkd := hS'.out w7 hB8.out)
            | (go_at_call 64; (with_reducible refine (cW.out _).mono ?_); rintro r w8 ⟨rfl, rfl⟩))
          go_ret
          exact ⟨(congrArg (fun i => Ending.returned (.string (wordN i))) hv.out).symm, hB8.out⟩
        · rw [hs, if_neg (by omega)] at hv
          have hV := Lib.hid (show srcV (srcI es k x') = .tuple #[.int .i64 t, .bool true] by rw [hs]; unfold srcV; rw [if_neg (by omega), decide_eq_true (by omega)])
          have cT := Lib.hid (fun W h => cT.out W h t)
          clear hs
          generalize twiceB es k x' (t : Int) = u at hv cT
          cases u
          all_goals
            have hv := Lib.hid hv
            go_wp2_with (first
              | (go_at_call 20; (with_reducible refine cA6.out.mono ?_); rintro r w6 ⟨rfl, hb6⟩; have hB7 := Lib.hid (hB6.out.trans (hb6.mono hB6.out.size)); clear hb6)
              | (go_at_call 19; (with_reducible refine (cS.out _ hB7.out).mono ?_); rintro r w7 ⟨rfl, hb7⟩; rw [hV.out]; have hB8 := Lib.hid (hB7.out.trans (hb7.mono hB7.out.size)); clear hb7)
              | (go_at_call 65; (with_reducible refine (cT.out _ hB8.out).mono ?_); rintro r w8 ⟨rfl, hb8⟩))
            go_ret
            exact ⟨(congrArg (fun i => Ending.returned (.string (wordN i))) hv.out).symm, hB8.out.trans (hb8.mono hB8.out.size)⟩
theorem rule_out (A : Option Addr) (n c : Nat) (at_ : Int) (w : World) (hn : n ≤ 9223372036854775807) (h : at_ < 0 ∨ (0 ≤ at_ ∧ (n : Int) ≤ at_)) :
    Calls Try.prog 50 #[.slice A n c, .int .i64 at_] w fun r w' => r = .returned (.string ⟨#[]⟩) ∧ w = w' := by
  rcases h with h | ⟨h0, h⟩
  all_goals
    go_enter Try.func50, Try.ntmps50
    go_wp2_with fail
    go_ret
    exact ⟨rfl, rfl⟩
end Go.Proofs.Ytbokdbppjiegjaa
