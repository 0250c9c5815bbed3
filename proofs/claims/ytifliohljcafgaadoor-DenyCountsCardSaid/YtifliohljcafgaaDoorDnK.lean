/- DenyCounts: may one be let in; the walk of the law. -/
import Derived.Test.YtifliohljcafgaaDoorDnJ
import Derived.WalkMore
namespace Go.Proofs.YtifliohljcafgaaDoor
open Go.RowKit Go.Maps

def annS : ByteArray := ⟨#[97, 110, 110]⟩
def sshS : ByteArray := ⟨#[115, 115, 104, 45, 97]⟩
def k1T : Tm := .mk 3 1 0 [] []
def p1T : Tm := .mk 4 0 0 [] [k1T]
theorem k1_eq : keyT 1 = some k1T := by simp [keyT, numOk, mkO, alls, own, lens, k1T]
theorem k1_len : k1T.len = 5 := by rw [k1T, len_mk (.inr (.inr (.inl ⟨rfl, by decide, rfl, rfl, rfl⟩)))]; simp [own, lens]
theorem p1_eq : pubT (some k1T) = some p1T := by
  have h := k1_len
  unfold pubT
  rw [if_pos (show kindO (some k1T) = 3 from rfl)]
  simp [mkO, alls, own, lens, p1T, h]
theorem denyE_cnt : ∀ l : Fin 20, denyE [(annS, 1)] [sshS] ((l.val + 1 : Nat) : Int) = 0 := by decide +kernel
theorem grv_one : (grv (annS, 1)).toArray.all (·.oneCell') = true := by simp [grv, Value.oneCell']
/-- No cell of a gate is a text. -/
theorem GateB.no_text {w : World} {g : Nat} {A B : Option Addr} {n c m d : Nat} {l f : Int} (h : GateB w g A B n c m d l f) {b off : Nat} {s : ByteArray} (hc : w.cell? ⟨b, off, none⟩ = some (.string s)) : b ≠ g := fun e => by
  subst e
  unfold World.cell? at hc
  rw [show w.heap[b]? = _ from h] at hc
  match off, hc with
  | 0, hc => cases hc
  | 1, hc => cases hc
  | 2, hc => cases hc
  | 3, hc => cases hc
  | k + 4, hc => simp at hc
theorem Grs.keepG {w w' : World} {g : Nat} {A B : Option Addr} {n c m d : Nat} {l f : Int} (hg : GateB w g A B n c m d l f) {x : Gr} {X : Option Addr} (h : Grs w X 1 [x]) (hk : Keeps (fun b => b = g) w w') : Grs w' X 1 [x] :=
  Rws.keepF h hk fun b off e _ hf => by
    obtain ⟨b', off', e', _, hc⟩ := h.2.2 (by decide)
    rw [e] at e'
    injection e' with e'
    injection e' with e1 e2 _
    subst e1 e2
    have := hc 0 (grv x) rfl 0 _ rfl
    rw [Nat.zero_mul, Nat.add_zero] at this
    exact hg.no_text this hf
theorem Strs.keepG {w w' : World} {g : Nat} {A B : Option Addr} {n c m d : Nat} {l f : Int} (hg : GateB w g A B n c m d l f) {x : ByteArray} {X : Option Addr} (h : Strs w X 1 [x]) (hk : Keeps (fun b => b = g) w w') : Strs w' X 1 [x] :=
  Rws.keepF h hk fun b off e _ hf => by
    obtain ⟨b', off', e', _, hc⟩ := h.2.2 (by decide)
    rw [e] at e'
    injection e' with e'
    injection e' with e1 e2 _
    subst e1 e2
    have := hc 0 (sv x) rfl 0 _ rfl
    rw [Nat.zero_mul, Nat.add_zero] at this
    exact hg.no_text this hf

set_option maxRecDepth 100000 in
set_option maxHeartbeats 2000000 in
theorem hasG_any (A : Ar) (B : Nat) (w : World) (H : Arena w B A) (x : Int) (hx : get A.L x = some p1T) (g : Nat) (Aa Bb : Option Addr) (c d : Nat) (l f : Int) (G : GateB w g Aa Bb 1 c 1 d l f) (hG : Grs w Aa 1 [(annS, 1)]) (hS : Strs w Bb 1 [sshS]) :
    Calls Tryd.prog 11 #[.pointer (some ⟨g, 0, none⟩), .pointer (some ⟨A.g, 0, none⟩), .string ⟨#[97, 110, 110]⟩, .string ⟨#[115, 115, 104, 45, 97]⟩, .int .i64 x] w fun r w' => r = .returned (.bool true) ∧ Below w.heap.size w w' := by
  have cO := Lib.hid (owner_any A B w H x 1 hx)
  have cN := Lib.hid (fun W (h : Below w.heap.size w W) => hasNm_any [sshS] Bb 1 d sshS W (by decide) (hS.keep h))
  rw [show has [sshS] sshS = true by decide +kernel] at cN
  have G := Lib.hid G
  have hG := Lib.hid hG
  clear H hx hS
  go_enter Tryd.func11, Tryd.ntmps11
  go_wp2_with fail
  go_step3
  go_wp2_with (first
    | (go_at_call 26; refine cO.out.mono ?_; rintro r w1 ⟨rfl, hb⟩
       have G1 := G.out.keep hb
       have d0 : w1.cell? ⟨g, 0, none⟩ = some (.slice Aa 1 c) := cell_of_row w1 g 0 _ _ _ G1
       have d1 := G1.cells.1
       have hG1 := Lib.hid (hG.out.keep hb)
       have cN1 := Lib.hid (cN.out w1 hb)
       have hB1 := Lib.hid hb
       clear hb G1 cN cO)
    | (go_at_call 27; refine cN1.out.mono ?_; rintro r w2 ⟨rfl, rfl⟩))
  go_step3
  go_wp2_with fail
  go_loop [42] (fun i => i = .int .i64 0) (fun _ => 0)
  case atStart => rfl
  case round =>
    obtain rfl := hrel
    obtain ⟨b, off, z, rfl, hbl, hz, _, hr⟩ := hG1.out.row (j := 0) (by decide)
    simp only [List.map_cons, List.map_nil, List.getElem?_cons_zero, Option.some.injEq] at hz
    subst hz
    rw [Nat.zero_mul, Nat.add_zero] at hr
    have hr := Lib.hid hr
    have hz1 := Lib.hid (heap_new w1 (.cells #[.string ⟨#[]⟩, .int .i64 0] 30))
    have hb1 := below_new w1 (.cells #[.string ⟨#[]⟩, .int .i64 0] 30)
    have hB2 := hB1.out.trans (hb1.mono hB1.out.size)
    have hB3 := Lib.hid (below_setRow hB2 hB1.out.size (grv (annS, 1)).toArray)
    have hrow := Lib.hid (hsetRow _ _ _ (grv (annS, 1)).toArray _ _ hz1.out)
    clear hb1 hB2
    go_upto_region 8 with (first
      | (refine wpList_load_at 30 _ rfl rfl b off rfl (grv (annS, 1)) _ hr.out Tryd.underlying30 rfl (by kernel_rfl) ?_)
      | (refine wpList_store_at 30 _ _ rfl rfl w1.heap.size (grv (annS, 1)).toArray rfl rfl 30 #[.string ⟨#[]⟩, .int .i64 0] hz1.out (by kernel_rfl) rfl grv_one ?_))
    generalize (w1.alloc (.cells #[.string ⟨#[]⟩, .int .i64 0] 30)).setRow w1.heap.size (grv (annS, 1)).toArray = w3 at *
    have e0 : w3.cell? ⟨w1.heap.size, 0, none⟩ = some (.string ⟨#[97, 110, 110]⟩) := cell_of_row w3 w1.heap.size 0 _ _ _ hrow.out
    have e1 : w3.cell? ⟨w1.heap.size, 1, none⟩ = some (.int .i64 1) := cell_of_row w3 w1.heap.size 1 _ _ _ hrow.out
    go_wp2_with fail
    trace_state
    go_ret
    exact ⟨rfl, hB3.out⟩
end Go.Proofs.YtifliohljcafgaaDoor
