/- The walk of PrefsCheck. -/
import Derived.Test.YtlonejkmdibkaaaDoorPfO
import Derived.Test.YtlonejkmdibkaaaDoorPfP0
import Derived.Test.YtlonejkmdibkaaaDoorFlV
namespace Go.Proofs.YtlonejkmdibkaaaDoor
open Go.RowKit

def sp1 : ByteArray := ⟨#[32]⟩
def prefsSp : ByteArray := ⟨#[112, 114, 101, 102, 115, 32]⟩
theorem spS_two (s : ByteArray) : spS [prefsS, s] = prefsSp ++ s ++ sp1 := by
  unfold spS
  simp only [List.foldl_cons, List.foldl_nil]
  have : ((⟨#[]⟩ : ByteArray) ++ prefsS ++ ⟨#[32]⟩) = prefsSp := by decide +kernel
  rw [this]; rfl
theorem wordAt_size (i : Int) : (wordAt i).size ≤ 6 := by
  unfold wordAt
  split
  · rename_i h
    obtain ⟨k, rfl⟩ := Int.eq_ofNat_of_zero_le h.1
    have hk : k < 8 := by omega
    rw [Int.toNat_natCast]
    match k, hk with
    | 0, _ => decide
    | 1, _ => decide
    | 2, _ => decide
    | 3, _ => decide
    | 4, _ => decide
    | 5, _ => decide
    | 6, _ => decide
    | 7, _ => decide
  · decide
theorem pre_small {s : ByteArray} (h : s.size ≤ 6) : ((⟨#[112, 114, 101, 102, 115, 32]⟩ : ByteArray) ++ s).size ≤ 12 := by
  have h1 : (⟨#[112, 114, 101, 102, 115, 32]⟩ : ByteArray).size = 6 := by decide +kernel
  simp only [ByteArray.size_append]
  omega
theorem spS_small {s : ByteArray} (h : s.size ≤ 6) : (spS [prefsS, s]).size ≤ 1000000 := by
  have h1 : prefsSp.size = 6 := by decide +kernel
  have h2 : sp1.size = 1 := by decide +kernel
  rw [spS_two]
  simp only [ByteArray.size_append]
  omega
theorem pfGo_range (L : List (List ByteArray)) : ∀ (n i : Nat), (pfGo L n i).2 < (n + i : Nat)
  | 0, i => by show (-1 : Int) < _; omega
  | n + 1, i => by
    unfold pfGo
    split
    · have := pfGo_range L n (i + 1); omega
    · show (i : Int) < _; omega
theorem built07 (n : Int) (s : ByteArray) : Tryd.prog.built 71 [(0, .int .i64 n), (1, .string s)] = some #[.int .i64 n, .string s] := by kernel_rfl
set_option maxRecDepth 100000 in
set_option maxHeartbeats 8000000 in
theorem law_prefsCheck (V : List Value) (L : List (List ByteArray)) (w : World) (H : Pf w V L) (hs : ∀ l ∈ L, ∀ s ∈ l, s.size ≤ 9223372036854775807) (P : PV w) (G : ETy w) :
    Calls Tryd.prog 9 #[.agg V.toArray] w fun r w' => r = .returned (.bool true) ∧ Below w.heap.size w w' := by
  have hb1 := below_got w (.cells V.toArray 44)
  have hg := heap_new w (.cells V.toArray 44)
  have hlt := (Array.getElem?_eq_some_iff.1 hg).1
  have hld0 := rangeAt_list (cs := V) (by exact hg)
  have hld := Lib.hid (fun W (h : Below (w.alloc (.cells V.toArray 44)).heap.size (w.alloc (.cells V.toArray 44)) W) => rangeAt_keep hld0 h hlt)
  have hsz : (Tryd.prog.info? 44).map (·.size) = some V.length := by rw [H.v8]; kernel_rfl
  have aw := Lib.hid (fun W (h : Below w.heap.size w W) => awake15_any W (P.keep h))
  have cF := few15_any V L (w.alloc (.cells V.toArray 44)) (H.keep hb1) hs
  have cC := Lib.hid (fun W (h : Below w.heap.size w W) (hn : ∀ l ∈ L, l.length ≤ 1000000) => pfCheck_any V L W (H.keep h) hs hn (P.keep h))
  have cR := Lib.hid (fun W (h : Below w.heap.size w W) => refCheck15_any V L W (H.keep h) hs)
  have hB1 := Lib.hid hb1
  have G := Lib.hid G
  have hlens := Lib.hid (@fewL_sizes L)
  clear H hs hg hlt P
  generalize fewP L = q at cF hlens
  have cF := Lib.hid cF
  cases q with
  | false =>
    go_enter Tryd.func9, Tryd.ntmps9
    go_upto_region 1 with (refine wpList_box_row 44 _ rfl rfl V.toArray rfl ?_)
    generalize w.alloc (.cells V.toArray 44) = w1 at cF hB1 hld0 hld ⊢
    go_wp2_with (first
      | (refine wpList_load_at 44 (.tmp 1) rfl rfl w.heap.size 0 rfl V _ hld0 Tryd.underlying44 rfl hsz ?_)
      | (go_at_call 29; refine cF.out.mono ?_; rintro r w2 ⟨rfl, hb2⟩; have hB2 := Lib.hid (hB1.out.trans (hb2.mono hB1.out.size)); clear hb2)
      | (go_at_call 20; refine (aw.out _ hB2.out).mono ?_; rintro r w8 ⟨rfl, hb8⟩))
    go_ret
    exact ⟨rfl, hB2.out.trans (hb8.mono hB2.out.size)⟩
  | true =>
    have hlens := Lib.hid (hlens.out rfl)
    by_cases he : (pfE L).1 = 0
    · have cC := Lib.hid (fun W (h : Below w.heap.size w W) => Calls.mono (cC.out W h hlens.out) (fun r w' h => h.ok he))
      have cR := fun W (h : Below w.heap.size w W) => cR.out W h
      rw [he] at cR
      generalize (pfE L).2 = i at cR
      have cR := Lib.hid cR
      clear he
      go_enter Tryd.func9, Tryd.ntmps9
      go_upto_region 1 with (refine wpList_box_row 44 _ rfl rfl V.toArray rfl ?_)
      generalize w.alloc (.cells V.toArray 44) = w1 at cF hB1 hld0 hld ⊢
      go_wp2_with (first
        | (go_at_call 29; refine cF.out.mono ?_; rintro r w2 ⟨rfl, hb2⟩; have hB2 := Lib.hid (hB1.out.trans (hb2.mono hB1.out.size)); have hl2 := hld.out _ hb2; have hb2' := Lib.hid hb2; clear hb2)
        | (go_at_call 44; (with_reducible refine (cC.out _ hB2.out).mono ?_); rintro r w3 ⟨rfl, hb3⟩; have hB3 := Lib.hid (hB2.out.trans (hb3.mono hB2.out.size)); have hl3 := hld.out _ (hb2'.out.trans (hb3.mono hb2'.out.size)); clear hb3)
        | (go_at_call 45; (with_reducible refine (cR.out _ hB3.out).mono ?_); rintro r w4 ⟨rfl, hb4⟩; have hB4 := Lib.hid (hB3.out.trans (hb4.mono hB3.out.size)); clear hb4)
        | (go_at_call 20; refine (aw.out _ hB4.out).mono ?_; rintro r w8 ⟨rfl, hb8⟩)
        | (refine wpList_load_at 44 (.tmp 1) rfl rfl w.heap.size 0 rfl V _ (by assumption) Tryd.underlying44 rfl hsz ?_))
      go_ret
      exact ⟨rfl, hB4.out.trans (hb8.mono hB4.out.size)⟩
    · have cC := Lib.hid (fun W (h : Below w.heap.size w W) => Calls.mono (cC.out W h hlens.out) (fun r w' h => h.bad he))
      have cI := fun W => refWord_any (pfE L).2 W
      have hws := wordAt_size (pfE L).2
      have cR := fun W (h : Below w.heap.size w W) => cR.out W h
      have hW := fun T u W (hE : isErr W (some (pfE L).1) [prefsS, wordAt (pfE L).2] (.iface T u)) (h : Below w.heap.size w W) => wrong07_any (pfE L).1 [prefsS, wordAt (pfE L).2] (.iface T u) W (by simp) (spS_small hws) hE (G.out.keep h)
      simp only [spS_two] at hW
      have hne : ((pfE L).1 == 0) = false := beq_eq_false_iff_ne.2 he
      generalize (pfE L).1 = e at cC cR hW hne
      generalize (pfE L).2 = i at cC cR cI hW hws
      generalize wordAt i = s at cC cI hW hws
      have s1 : ((⟨#[112, 114, 101, 102, 115, 32]⟩ : ByteArray) ++ s).size ≤ 12 := pre_small hws
      have hW := Lib.hid hW
      have cR := Lib.hid cR
      have cI := Lib.hid cI
      clear he
      go_enter Tryd.func9, Tryd.ntmps9
      go_upto_region 1 with (refine wpList_box_row 44 _ rfl rfl V.toArray rfl ?_)
      generalize w.alloc (.cells V.toArray 44) = w1 at cF hB1 hld0 hld ⊢
      go_wp2_with (first
        | (go_at_call 29; refine cF.out.mono ?_; rintro r w2 ⟨rfl, hb2⟩; have hB2 := Lib.hid (hB1.out.trans (hb2.mono hB1.out.size)); have hl2 := hld.out _ hb2; have hb2' := Lib.hid hb2; clear hb2)
        | (go_at_call 44; (with_reducible refine (cC.out _ hB2.out).mono ?_); rintro r w3 ⟨T3, u3, rfl, hE3, hb3⟩; have hE3 := Lib.hid hE3; have hB3 := Lib.hid (hB2.out.trans (hb3.mono hB2.out.size)); have hl3 := hld.out _ (hb2'.out.trans (hb3.mono hb2'.out.size)); clear hb3)
        | (go_at_call 45; (with_reducible refine (cR.out _ hB3.out).mono ?_); rintro r w4 ⟨rfl, hb4⟩; have hE4 := Lib.hid (hE3.out.keep hb4); have hB4 := Lib.hid (hB3.out.trans (hb4.mono hB3.out.size)); clear hb4)
        | (go_at_call 20; refine (aw.out _ hB4.out).mono ?_; rintro r w8 ⟨rfl, hb8⟩; have hE8 := Lib.hid (hE4.out.keep hb8); have hB8 := Lib.hid (hB4.out.trans (hb8.mono hB4.out.size)); clear hb8)
        | (go_at_call 36; (with_reducible refine (cI.out _).mono ?_); rintro r w9 ⟨rfl, hb9⟩; have hE9 := Lib.hid (hE8.out.keep hb9); have hB9 := Lib.hid (hB8.out.trans (hb9.mono hB8.out.size)); clear hb9)
        | (refine wpList_build_as 71 _ rfl rfl #[.int .i64 e, .string (prefsSp ++ s ++ sp1)] ?_ ?_; exact built07 _ _)
        | (go_at_call 46; refine (hW.out _ _ _ hE9.out hB9.out).mono ?_; rintro r w10 ⟨rfl, hb10⟩)
        | (refine wpList_load_at 44 (.tmp 1) rfl rfl w.heap.size 0 rfl V _ (by assumption) Tryd.underlying44 rfl hsz ?_))
      go_ret
      exact ⟨rfl, hB9.out.trans (hb10.mono hB9.out.size)⟩
end Go.Proofs.YtlonejkmdibkaaaDoor
