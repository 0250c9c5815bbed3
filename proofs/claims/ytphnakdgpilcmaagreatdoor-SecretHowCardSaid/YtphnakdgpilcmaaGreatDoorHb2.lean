/- Texts joined: what each shows stands ahead of its theorems. -/
import Derived.Test.YtphnakdgpilcmaaGreatDoorHb1
import Derived.Maps.Own
import Derived.Maps.OwnSet
import Derived.Maps.Keyed
import Derived.Maps.Views
import Derived.Test.YtphnakdgpilcmaaGreatDoorHb0
import Derived.Test.YtphnakdgpilcmaaGreatDoorProg
import Derived.Laws.BytesArg
import Derived.Laws.BitsLemmas
import Derived.IntWalk
import Derived.OpenShut
import Derived.WalkKit
import Derived.Deep.QuietTactic
import Derived.BigQuiet
import Derived.Deep.DeepCutAuto
import Derived.WalkMore
import Derived.Laws.CopyRow
import Derived.Laws.CopyOwn
namespace Go.Proofs.YtphnakdgpilcmaaGreatDoor
section
open Go.RowKit Go.Maps

theorem PutR.of_below {w w1 w' : World} {B : Nat} {A : Ar} {o : Option Tm} {r : Ending} (hb : Below w.heap.size w w1) (h : PutR w1 B A o r w') : PutR w B A o r w' := by
  obtain ⟨A', x, e, ⟨h1, h2, h3, h4, h6, h7⟩, h5⟩ := h
  exact ⟨A', x, e, ⟨h1, h2, h3, (Keeps.of_below hb).trans h4, fun y hy => (h6 y hy).imp id fun hq q e => Nat.le_trans hb.size (hq q e), h7⟩, h5⟩
theorem iv_flat : ∀ ys : List Int, (ys.map (Value.int .i64)) = (ys.map iv).flatten
  | [] => rfl
  | y :: r => by rw [List.map_cons, List.map_cons, List.flatten_cons, iv_flat r]; rfl
theorem ints_new (w : World) (ys : List Int) (t : TypeId) : Ints (w.alloc (.cells (ys.map (Value.int .i64)).toArray t)) (some ⟨w.heap.size, 0, none⟩) ys.length ys := by
  have h := heap_new w (.cells (ys.map (Value.int .i64)).toArray t)
  have e : (ys.map (Value.int .i64)) = (ys.map iv).flatten := iv_flat ys
  rw [e] at h
  have := Rws.block (k := 1) (zs := ys.map iv) (by simp [iv]) h (by simp)
  rw [List.length_map] at this
  rw [e]
  exact this

theorem number_any (n : Int) (w : World) :
    Calls Tryz.prog 47 #[.int .i64 n] w fun r w' => r = .returned (.bool (decide (numOk n))) ∧ w = w' := by
  by_cases h0 : 0 ≤ n
  · go_enter Tryz.func47, Tryz.ntmps47
    go_wp2
    go_ret
    exact ⟨ret_bool (by unfold numOk; simp [h0]), rfl⟩
  · have hn : ¬ numOk n := fun h => h0 h.1
    rw [decide_eq_false hn]
    go_enter Tryz.func47, Tryz.ntmps47
    go_wp2
    go_ret
    exact ⟨rfl, rfl⟩
theorem text_any (s : List UInt8) (m : Nat) (w : World) (hs : s.length ≤ 4000000000) :
    Calls Tryz.prog 52 #[.string (bs s), .int .i64 m] w fun r w' => r = .returned (.bool (decide (txtOk s m))) ∧ w = w' := by
  have hz := bs_size s
  by_cases h0 : 1 ≤ s.length
  · have h1 : 1 ≤ (bs s).size := by omega
    have h2 : (bs s).size ≤ 4000000000 := by omega
    go_enter Tryz.func52, Tryz.ntmps52
    go_wp2
    go_ret
    exact ⟨ret_bool (by unfold txtOk; simp [h0, hz]), rfl⟩
  · have hn : ¬ txtOk s m := fun h => h0 h.1
    have h1 : (bs s).size = 0 := by omega
    rw [decide_eq_false hn]
    clear h0 hn hz
    go_enter Tryz.func52, Tryz.ntmps52
    go_wp2
    go_ret
    exact ⟨rfl, rfl⟩

section
variable (A : Ar) (B : Nat) (w : World) (H : Arena w B A) (hB : B ≤ w.heap.size) (hN : A.N.length < 100)
include H hB hN
theorem data_any (s : List UInt8) (hs : s.length ≤ 4000000000) :
    Calls Tryz.prog 53 #[.pointer (some ⟨A.g, 0, none⟩), .string (bs s)] w (PutR w B A (dataT s)) := by
  have cP : Calls Tryz.prog 48 #[.pointer (some ⟨A.g, 0, none⟩), .agg #[.int .i64 1, .int .i64 0, .int .i64 0, .string (bs s), .slice none 0 0]] w (PutR w B A (dataT s)) := put_any A B 1 0 0 s [] none 0 0 w H hB hN hs (by omega) Rws.nil_ (dataT_ok s)
  have cP := Lib.hid cP
  clear H
  go_enter Tryz.func53, Tryz.ntmps53
  go_wp2_with (go_at_call 48; refine cP.out.mono ?_; rintro r w1 ⟨A', x, rfl, hG, hM⟩)
  go_ret
  exact ⟨A', x, rfl, hG, hM⟩
theorem nonce_any (p q : Int) :
    Calls Tryz.prog 26 #[.pointer (some ⟨A.g, 0, none⟩), .int .i64 p, .int .i64 q] w (PutR w B A (nonceT p q)) := by
  have cp := Lib.hid (number_any p w)
  have cq := Lib.hid (number_any q w)
  by_cases h : numOk p ∧ numOk q
  · have e : nonceT p q = mkO 2 p.toNat q.toNat [] [] := by unfold nonceT; rw [if_pos h]
    have hok := nonceT_ok p q
    rw [e] at hok ⊢
    obtain ⟨i, rfl⟩ := Int.eq_ofNat_of_zero_le h.1.1
    obtain ⟨j, rfl⟩ := Int.eq_ofNat_of_zero_le h.2.1
    rw [Int.toNat_natCast, Int.toNat_natCast] at hok ⊢
    have cP : Calls Tryz.prog 48 #[.pointer (some ⟨A.g, 0, none⟩), .agg #[.int .i64 2, .int .i64 i, .int .i64 j, .string ⟨#[]⟩, .slice none 0 0]] w (PutR w B A (mkO 2 i j [] [])) := put_any A B 2 i j [] [] none 0 0 w H hB hN (by simp) (by omega) Rws.nil_ hok
    rw [decide_eq_true h.1] at cp
    rw [decide_eq_true h.2] at cq
    have cP := Lib.hid cP
    clear H hok e h
    go_enter Tryz.func26, Tryz.ntmps26
    go_wp2_with (first
      | (go_at_call 47; (with_reducible refine cp.out.mono ?_); rintro r w1 ⟨rfl, rfl⟩)
      | (go_at_call 47; (with_reducible refine cq.out.mono ?_); rintro r w1 ⟨rfl, rfl⟩)
      | (go_at_call 48; refine cP.out.mono ?_; rintro r w1 ⟨A', x, rfl, hG, hM⟩))
    go_ret
    exact ⟨A', x, rfl, hG, hM⟩
  · have e : nonceT p q = none := by unfold nonceT; rw [if_neg h]
    have hR := Lib.hid (PutR.none_ H (Below.refl _ _) e)
    by_cases h1 : numOk p
    · have h2 : ¬ numOk q := fun h2 => h ⟨h1, h2⟩
      rw [decide_eq_true h1] at cp
      rw [decide_eq_false h2] at cq
      clear H e h h1 h2
      go_enter Tryz.func26, Tryz.ntmps26
      go_wp2_with (first
        | (go_at_call 47; (with_reducible refine cp.out.mono ?_); rintro r w1 ⟨rfl, rfl⟩)
        | (go_at_call 47; (with_reducible refine cq.out.mono ?_); rintro r w1 ⟨rfl, rfl⟩))
      go_ret
      exact hR.out
    · rw [decide_eq_false h1] at cp
      clear H e h h1 cq
      go_enter Tryz.func26, Tryz.ntmps26
      go_wp2_with (first
        | (go_at_call 47; (with_reducible refine cp.out.mono ?_); rintro r w1 ⟨rfl, rfl⟩))
      go_ret
      exact hR.out
theorem key_any (p : Int) :
    Calls Tryz.prog 54 #[.pointer (some ⟨A.g, 0, none⟩), .int .i64 p] w (PutR w B A (keyT p)) := by
  have cp := Lib.hid (number_any p w)
  by_cases h : numOk p
  · have e : keyT p = mkO 3 p.toNat 0 [] [] := by unfold keyT; rw [if_pos h]
    have hok := keyT_ok p
    rw [e] at hok ⊢
    obtain ⟨i, rfl⟩ := Int.eq_ofNat_of_zero_le h.1
    rw [Int.toNat_natCast] at hok ⊢
    have cP : Calls Tryz.prog 48 #[.pointer (some ⟨A.g, 0, none⟩), .agg #[.int .i64 3, .int .i64 i, .int .i64 0, .string ⟨#[]⟩, .slice none 0 0]] w (PutR w B A (mkO 3 i 0 [] [])) := put_any A B 3 i 0 [] [] none 0 0 w H hB hN (by simp) (by omega) Rws.nil_ hok
    rw [decide_eq_true h] at cp
    have cP := Lib.hid cP
    clear H hok e h
    go_enter Tryz.func54, Tryz.ntmps54
    go_wp2_with (first
      | (go_at_call 47; (with_reducible refine cp.out.mono ?_); rintro r w1 ⟨rfl, rfl⟩)
      | (go_at_call 48; refine cP.out.mono ?_; rintro r w1 ⟨A', x, rfl, hG, hM⟩))
    go_ret
    exact ⟨A', x, rfl, hG, hM⟩
  · have e : keyT p = none := by unfold keyT; rw [if_neg h]
    have hR := Lib.hid (PutR.none_ H (Below.refl _ _) e)
    rw [decide_eq_false h] at cp
    clear H e h
    go_enter Tryz.func54, Tryz.ntmps54
    go_wp2_with (go_at_call 47; (with_reducible refine cp.out.mono ?_); rintro r w1 ⟨rfl, rfl⟩)
    go_ret
    exact hR.out
theorem base_any (s : List UInt8) (hs : s.length ≤ 4000000000) :
    Calls Tryz.prog 28 #[.pointer (some ⟨A.g, 0, none⟩), .string (bs s)] w (PutR w B A (baseT s)) := by
  have cp : Calls Tryz.prog 52 #[.string (bs s), .int .i64 2100] w fun r w' => r = .returned (.bool (decide (txtOk s 2100))) ∧ w = w' := text_any s 2100 w hs
  have cp := Lib.hid cp
  by_cases h : txtOk s 2100
  · have e : baseT s = mkO 5 0 0 s [] := by unfold baseT; rw [if_pos h]
    have hok := baseT_ok s
    rw [e] at hok ⊢
    have cP : Calls Tryz.prog 48 #[.pointer (some ⟨A.g, 0, none⟩), .agg #[.int .i64 5, .int .i64 0, .int .i64 0, .string (bs s), .slice none 0 0]] w (PutR w B A (mkO 5 0 0 s [])) := put_any A B 5 0 0 s [] none 0 0 w H hB hN hs (by omega) Rws.nil_ hok
    rw [decide_eq_true h] at cp
    have cP := Lib.hid cP
    clear H hok e h
    go_enter Tryz.func28, Tryz.ntmps28
    go_wp2_with (first
      | (go_at_call 52; refine cp.out.mono ?_; rintro r w1 ⟨rfl, rfl⟩)
      | (go_at_call 48; refine cP.out.mono ?_; rintro r w1 ⟨A', x, rfl, hG, hM⟩))
    go_ret
    exact ⟨A', x, rfl, hG, hM⟩
  · have e : baseT s = none := by unfold baseT; rw [if_neg h]
    have hR := Lib.hid (PutR.none_ H (Below.refl _ _) e)
    rw [decide_eq_false h] at cp
    clear H e h
    go_enter Tryz.func28, Tryz.ntmps28
    go_wp2_with (go_at_call 52; refine cp.out.mono ?_; rintro r w1 ⟨rfl, rfl⟩)
    go_ret
    exact hR.out
theorem pub_any (x : Int) :
    Calls Tryz.prog 55 #[.pointer (some ⟨A.g, 0, none⟩), .int .i64 x] w (PutR w B A (pubT (get A.L x))) := by
  have cI : Calls Tryz.prog 49 #[.pointer (some ⟨A.g, 0, none⟩), .int .i64 x, .int .i64 3] w fun r w' => r = .returned (.bool (isB A x 3)) ∧ w = w' := is_any A B x 3 w H
  rw [isB_eq (by decide)] at cI
  by_cases h : kindO (get A.L x) = 3
  · have e : pubT (get A.L x) = mkO 4 0 0 [] [get A.L x] := by unfold pubT; rw [if_pos h]
    have hok := pubT_ok (H.good.okO x)
    rw [e] at hok ⊢
    have hb := below_new w (.cells #[.int .i64 x] 33)
    have cP : Calls Tryz.prog 48 #[.pointer (some ⟨A.g, 0, none⟩), .agg #[.int .i64 4, .int .i64 0, .int .i64 0, .string ⟨#[]⟩, .slice (some ⟨w.heap.size, 0, none⟩) 1 1]] (w.alloc (.cells #[.int .i64 x] 33)) (PutR (w.alloc (.cells #[.int .i64 x] 33)) B A (mkO 4 0 0 [] [get A.L x])) := put_any A B 4 0 0 [] [x] (some ⟨w.heap.size, 0, none⟩) 1 1 _ (H.keep hb) (Nat.le_trans hB hb.size) hN (by simp) (by omega) (ints_new w [x] _) hok
    rw [show (kindO (get A.L x) == 3) = true by simp [h]] at cI
    have cP := Lib.hid cP
    have cI := Lib.hid cI
    have hb := Lib.hid hb
    clear H hok e h
    go_enter Tryz.func55, Tryz.ntmps55
    go_wp2_with (first
      | (go_at_call 49; refine cI.out.mono ?_; rintro r w1 ⟨rfl, rfl⟩)
      | (go_at_call 48; refine cP.out.mono ?_; rintro r w1 h1; obtain ⟨A', x', rfl, hG, hM⟩ := PutR.of_below hb.out h1))
    go_ret
    exact ⟨A', x', rfl, hG, hM⟩
  · have e : pubT (get A.L x) = none := by unfold pubT; rw [if_neg h]
    have hR := Lib.hid (PutR.none_ H (Below.refl _ _) e)
    rw [show (kindO (get A.L x) == 3) = false by simp [h]] at cI
    have cI := Lib.hid cI
    clear H e h
    go_enter Tryz.func55, Tryz.ntmps55
    go_wp2_with (go_at_call 49; refine cI.out.mono ?_; rintro r w1 ⟨rfl, rfl⟩)
    go_ret
    exact hR.out
theorem hash_any (x : Int) :
    Calls Tryz.prog 57 #[.pointer (some ⟨A.g, 0, none⟩), .int .i64 x] w (PutR w B A (hashT (get A.L x))) := by
  have hok := hashT_ok (H.good.okO x)
  unfold hashT at hok ⊢
  have hb := below_new w (.cells #[.int .i64 x] 33)
  have cP : Calls Tryz.prog 48 #[.pointer (some ⟨A.g, 0, none⟩), .agg #[.int .i64 7, .int .i64 0, .int .i64 0, .string ⟨#[]⟩, .slice (some ⟨w.heap.size, 0, none⟩) 1 1]] (w.alloc (.cells #[.int .i64 x] 33)) (PutR (w.alloc (.cells #[.int .i64 x] 33)) B A (mkO 7 0 0 [] [get A.L x])) := put_any A B 7 0 0 [] [x] (some ⟨w.heap.size, 0, none⟩) 1 1 _ (H.keep hb) (Nat.le_trans hB hb.size) hN (by simp) (by omega) (ints_new w [x] _) hok
  have cP := Lib.hid cP
  have hb := Lib.hid hb
  clear H hok
  go_enter Tryz.func57, Tryz.ntmps57
  go_wp2_with (go_at_call 48; refine cP.out.mono ?_; rintro r w1 h1; obtain ⟨A', x', rfl, hG, hM⟩ := PutR.of_below hb.out h1)
  go_ret
  exact ⟨A', x', rfl, hG, hM⟩
theorem list_any (ys : List Int) (Aa : Option Addr) (m c : Nat) (hm : m ≤ 1000) (hY : Ints w Aa m ys) :
    Calls Tryz.prog 62 #[.pointer (some ⟨A.g, 0, none⟩), .slice Aa m c] w (PutR w B A (listT (ys.map (get A.L)))) := by
  have hyl := hY.len
  by_cases h : m ≤ 32
  · have e : listT (ys.map (get A.L)) = mkO 10 0 0 [] (ys.map (get A.L)) := by unfold listT; rw [if_pos (by rw [List.length_map]; omega)]
    have hok : okO (listT (ys.map (get A.L))) := listT_ok (fun o ho => by
      obtain ⟨y, _, rfl⟩ := List.mem_map.1 ho
      exact H.good.okO y)
    rw [e] at hok ⊢
    have cP : Calls Tryz.prog 48 #[.pointer (some ⟨A.g, 0, none⟩), .agg #[.int .i64 10, .int .i64 0, .int .i64 0, .string ⟨#[]⟩, .slice Aa m c]] w (PutR w B A (mkO 10 0 0 [] (ys.map (get A.L)))) := put_any A B 10 0 0 [] ys Aa m c w H hB hN (by simp) (by omega) hY hok
    have cP := Lib.hid cP
    have h' : ¬ 32 < m := by omega
    clear H hok e hY
    go_enter Tryz.func62, Tryz.ntmps62
    go_wp2_with (go_at_call 48; refine cP.out.mono ?_; rintro r w1 ⟨A', x, rfl, hG, hM⟩)
    go_ret
    exact ⟨A', x, rfl, hG, hM⟩
  · have e : listT (ys.map (get A.L)) = none := by unfold listT; rw [if_neg (by rw [List.length_map]; omega)]
    have hR := Lib.hid (PutR.none_ H (Below.refl _ _) e)
    have h' : 32 < m := by omega
    clear H e h hY
    go_enter Tryz.func62, Tryz.ntmps62
    go_wp2_with fail
    go_ret
    exact hR.out
end
def sizeO (o : Option Tm) : Nat := match o with | some t => t.len | none => 0
def kindT (o : Option Tm) : Nat := kindO o
theorem kind_any (A : Ar) (B : Nat) (w : World) (H : Arena w B A) (x : Int) :
    Calls Tryz.prog 74 #[.pointer (some ⟨A.g, 0, none⟩), .int .i64 x] w fun r w' => r = .returned (.int .i64 (kindO (get A.L x))) ∧ w = w' := by
  have cH := has_any A B x w H
  cases hg : get A.L x with
  | none =>
    rw [show hasB A x = false by unfold hasB; rw [hg]; rfl] at cH
    have cH := Lib.hid cH
    clear H hg
    go_enter Tryz.func74, Tryz.ntmps74
    go_wp2_with (go_at_call 43; refine cH.out.mono ?_; rintro r w1 ⟨rfl, rfl⟩)
    go_ret
    exact ⟨rfl, rfl⟩
  | some t =>
    rw [show hasB A x = true by unfold hasB; rw [hg]; rfl] at cH
    have cH := Lib.hid cH
    obtain ⟨j, rfl, hj⟩ := get_some hg
    obtain ⟨nd, hnd, rfl⟩ := Ar.N_at hj
    obtain ⟨An, cn, As, cs, e1, e2, c0, c1, c2, h1, h2⟩ := H.open_
    obtain ⟨b, off, cn', ev, hb, hr, hjl⟩ := H.node hnd
    obtain ⟨f0, f1, f2, f3, f4⟩ := Nd.flds hr
    rw [e1] at ev
    injection ev with ev _ _
    subst ev
    clear H hg hj hnd h1 h2 e1 e2 f1 f2 f3 f4 hr
    go_enter Tryz.func74, Tryz.ntmps74
    go_wp2_with (go_at_call 43; refine cH.out.mono ?_; rintro r w1 ⟨rfl, rfl⟩)
    go_ret
    exact ⟨rfl, rfl⟩
end

section
open Go.RowKit Go.Maps

/-- Blocks of other types than an arena's stay. -/
def Stay (w w' : World) : Prop := ∀ (q : Nat) (cur : Array Value) (t : TypeId) (fr : Nat × Nat), w.heap[q]? = some (.cells cur t fr) → t ≠ 64 → t ≠ 52 → t ≠ 3 → w'.heap[q]? = some (.cells cur t fr)
theorem Stay.refl (w : World) : Stay w w := fun _ _ _ _ h _ _ _ => h
theorem Stay.trans {a b c : World} (h : Stay a b) (k : Stay b c) : Stay a c := fun q cur t fr hq h1 h2 h3 => k q cur t fr (h q cur t fr hq h1 h2 h3) h1 h2 h3
theorem Stay.of_below {w w' : World} (h : Below w.heap.size w w') : Stay w w' := fun q _ _ _ hq _ _ _ => (h.block q (Array.getElem?_eq_some_iff.1 hq).1).trans hq
theorem Stay.of_keeps {w w' : World} {B : Nat} {A : Ar} (H : Arena w B A) (h : Keeps A.has w w') : Stay w w' := fun q cur t fr hq h1 h2 h3 =>
  (h.block q (Array.getElem?_eq_some_iff.1 hq).1 fun hf => by
    have hT : Typ w q t := ⟨_, _, hq⟩
    rcases hf with rfl | rfl | hf | hf
    · exact hT.ne ⟨_, _, H.blk⟩ h1 rfl
    · obtain ⟨D, ⟨es, cl, hb, _⟩, _⟩ := H.map
      exact hT.no_map hb rfl
    · exact hT.ne (H.nodes.typ hf) h2 rfl
    · exact hT.ne (OwnR.typ H.sizes hf) h3 rfl).trans hq
/-- An arena made since w, of the terms L. -/
def St (w : World) (g : Nat) (W : World) (L : List Tm) : Prop := ∃ A : Ar, A.g = g ∧ A.L = L ∧ Arena W w.heap.size A ∧ Below w.heap.size w W
theorem St.below {w : World} {g : Nat} {W : World} {L : List Tm} (h : St w g W L) : Below w.heap.size w W := by obtain ⟨_, _, _, _, h⟩ := h; exact h
theorem St.good {w : World} {g : Nat} {W : World} {L : List Tm} (h : St w g W L) : Good L := by obtain ⟨A, _, rfl, H, _⟩ := h; exact H.good
theorem St.few {w : World} {g : Nat} {W : World} {L : List Tm} (h : St w g W L) : L.length ≤ 100 := by obtain ⟨A, _, rfl, H, _⟩ := h; rw [A.L_len]; exact H.few
theorem St.keep {w : World} {g : Nat} {W W' : World} {L : List Tm} (h : St w g W L) (hb : Below W.heap.size W W') : St w g W' L := by
  obtain ⟨A, h1, h2, H, hB⟩ := h
  exact ⟨A, h1, h2, H.keep hb, hB.trans (hb.mono hB.size)⟩
theorem St.start {w : World} {A : Ar} {W : World} (hN : A.N = []) (h : Arena W w.heap.size A) (hb : Below w.heap.size w W) : St w A.g W [] := ⟨A, rfl, by simp [Ar.L, hN], h, hb⟩
/-- Two readings of one arena have the same slices in their nodes. -/
theorem Arena.same_v {w : World} {B B' : Nat} {A A' : Ar} (h : Arena w B A) (h' : Arena w B' A') (hg : A.g = A'.g) : A.N.map Nd.v = A'.N.map Nd.v := by
  have hb := h.blk
  rw [hg, h'.blk] at hb
  have e1 : A'.vn = A.vn := by simp only [Option.some.injEq, Obj.cells.injEq, Array.mk.injEq, List.cons.injEq] at hb; exact hb.1.1
  obtain ⟨An, cn, ev, hr⟩ := h.nodes.rws
  obtain ⟨An', cn', ev', hr'⟩ := h'.nodes.rws
  rw [e1, ev] at ev'
  injection ev' with q1 q2 q3
  subst q1
  simp only [List.length_map] at q2 hr hr'
  refine List.ext_getElem? fun j => ?_
  rw [List.getElem?_map, List.getElem?_map]
  rcases Nat.lt_or_ge j A.N.length with hj | hj
  · obtain ⟨b, off, z, e, _, hz, _, hc⟩ := hr.row hj
    obtain ⟨b', off', z', e', _, hz', _, hc'⟩ := hr'.row (show j < A'.N.length by omega)
    rw [e] at e'
    injection e' with e'
    injection e' with e2 e3 e4
    subst e2
    subst e3
    rw [List.getElem?_map] at hz hz'
    rw [List.getElem?_eq_getElem hj] at hz ⊢
    rw [List.getElem?_eq_getElem (show j < A'.N.length by omega)] at hz' ⊢
    have hz := Option.some.inj hz
    have hz' := Option.some.inj hz'
    have c4 := hc 4 (A.N[j]).v (by rw [← hz]; rfl)
    have c4' := hc' 4 (A'.N[j]).v (by rw [← hz']; rfl)
    rw [c4] at c4'
    simpa using c4'
  · rw [List.getElem?_eq_none hj, List.getElem?_eq_none (by omega)]
/-- No node's numbers lie in a block of F. -/
def OffE (W : World) (g : Nat) (F : Nat → Prop) : Prop := ∃ B A, Arena W B A ∧ A.g = g ∧ ∀ x ∈ A.N, OffS F x.v
theorem OffE.at_ {W : World} {g B : Nat} {F : Nat → Prop} {A : Ar} (h : OffE W g F) (H : Arena W B A) (hg : A.g = g) : ∀ x ∈ A.N, OffS F x.v := fun x hx => by
  obtain ⟨B1, A1, H1, h1, h2⟩ := h
  have e := H.same_v H1 (hg.trans h1.symm)
  have hm : x.v ∈ A.N.map Nd.v := List.mem_map_of_mem hx
  rw [e] at hm
  obtain ⟨y, hy, hv⟩ := List.mem_map.1 hm
  rw [← hv]
  exact h2 y hy
/-- A block that is not the arena's map. -/
def OffB (W : World) (g b : Nat) : Prop := ∃ vn vs bm, W.heap[g]? = some (.cells #[vn, vs, .map (some bm)] 64 (0, 0)) ∧ bm ≠ b
/-- Maps other than the arena's stay. -/
def MapStay (g : Nat) (W W' : World) : Prop := ∀ (b : Nat) (es : Array MapEntry) (cl : Nat), W.heap[b]? = some (.map es cl) → OffB W g b → W'.heap[b]? = some (.map es cl) ∧ OffB W' g b
theorem MapStay.of_below {g : Nat} {W W' : World} (hb : Below W.heap.size W W') : MapStay g W W' := fun b es cl h ⟨vn, vs, bm, h1, h2⟩ =>
  ⟨(hb.block b (Array.getElem?_eq_some_iff.1 h).1).trans h, vn, vs, bm, (hb.block g (Array.getElem?_eq_some_iff.1 h1).1).trans h1, h2⟩
theorem MapStay.trans {g : Nat} {a b c : World} (h : MapStay g a b) (k : MapStay g b c) : MapStay g a c := fun q es cl h1 h2 => by
  obtain ⟨h3, h4⟩ := h q es cl h1 h2
  exact k q es cl h3 h4
theorem MapStay.of_grown {g : Nat} {W W' : World} {row : Option Nat} {E : TypeId} (hg : W.grownBy W' row) (hr : ∀ q, row = some q → Typ W q E) (hE : 64 ≠ E) : MapStay g W W' := fun b es cl h ⟨vn, vs, bm, h1, h2⟩ =>
  ⟨(hg.block b (Array.getElem?_eq_some_iff.1 h).1 fun e => (hr b e.symm).no_map h rfl).trans h, vn, vs, bm, block_grown h1 hg hr hE, h2⟩
/-- Blocks in which no node's numbers lay are still such; maps other than the arena's stay. -/
def Fresh (g : Nat) (W W' : World) : Prop := (∀ F : Nat → Prop, (∀ q, F q → q < W.heap.size) → OffE W g F → OffE W' g F) ∧ MapStay g W W'
theorem OffE.keep {W W' : World} {g : Nat} {F : Nat → Prop} (h : OffE W g F) (hb : Below W.heap.size W W') : OffE W' g F := by
  obtain ⟨B, A, H, h1, h2⟩ := h
  exact ⟨B, A, H.keep hb, h1, h2⟩
theorem Fresh.of_below {g : Nat} {W W' : World} (hb : Below W.heap.size W W') : Fresh g W W' := ⟨fun _ _ h => h.keep hb, MapStay.of_below hb⟩
theorem Fresh.trans {g : Nat} {a b c : World} (h : Fresh g a b) (hs : a.heap.size ≤ b.heap.size) (k : Fresh g b c) : Fresh g a c := ⟨fun F hF ho => k.1 F (fun q hq => Nat.lt_of_lt_of_le (hF q hq) hs) (h.1 F hF ho), h.2.trans k.2⟩
theorem Fresh.of_grew {w w' : World} {B : Nat} {A A' : Ar} {o : Option Tm} (H : Arena w B A) (h : Grew w w' B A A' o) : Fresh A.g w w' := ⟨fun F hF ho => ⟨B, A', h.arena, h.same, fun x hx => by
  rcases h.fresh x hx with hx | hx
  · exact ho.at_ H rfl x hx
  · exact fun _ _ _ _ _ q hq hf => absurd (hF q hf) (Nat.not_lt.2 (hx q hq))⟩, fun b es cl hb ⟨vn, vs, bm, h1, h2⟩ => by
  rw [H.blk] at h1
  injection h1 with h1
  injection h1 with h1 _ _
  have e2 := congrArg (fun a => a[2]?) h1
  have hbm : A.bm = bm := by simpa using e2
  have hoff : ¬ A.has b := fun hf => by
    rcases hf with rfl | rfl | hf | hf
    · rw [H.blk] at hb; cases hb
    · exact h2 hbm.symm
    · exact (H.nodes.typ hf).no_map hb rfl
    · exact (OwnR.typ H.sizes hf).no_map hb rfl
  refine ⟨(h.keeps.block b (Array.getElem?_eq_some_iff.1 hb).1 hoff).trans hb, A'.vn, A'.vs, A'.bm, ?_, ?_⟩
  · rw [← h.same]; exact h.arena.blk
  · rw [h.bm, hbm]; exact h2⟩
/-- A term more. -/
def SR (w : World) (g : Nat) (W : World) (L : List Tm) (o : Option Tm) (r : Ending) (W' : World) : Prop := ∃ L' x, r = .returned (.int .i64 x) ∧ St w g W' L' ∧ Grow L L' o ∧ Nm L' x o ∧ Stay W W' ∧ W.heap.size ≤ W'.heap.size ∧ Fresh g W W'
theorem St.put {w : World} {g : Nat} {W : World} {L : List Tm} {o : Option Tm} {P : Program} {f : FuncId} {args : Array Value} (h : St w g W L) (hL : L.length < 100)
    (hc : ∀ A, A.g = g → A.L = L → Arena W w.heap.size A → w.heap.size ≤ W.heap.size → A.N.length < 100 → Calls P f args W (PutR W w.heap.size A o)) : Calls P f args W (SR w g W L o) := by
  obtain ⟨A, h1, h2, H, hB⟩ := h
  refine (hc A h1 h2 H hB.size (by rw [← A.L_len, h2]; exact hL)).mono ?_
  rintro r W' ⟨A', x, rfl, hG, hM⟩
  exact ⟨A'.L, x, rfl, ⟨A', hG.same.trans h1, rfl, hG.arena, hB.trans (hG.keeps.below (fun k hk => (H.has_ge hk).1) hB.size)⟩, h2 ▸ hG.grow, hM, Stay.of_keeps H hG.keeps, hG.keeps.size, h1 ▸ Fresh.of_grew H hG⟩
section
variable {w : World} {g : Nat} {W : World} {L : List Tm} (h : St w g W L) (hL : L.length < 100)
include h hL
theorem St.data (s : List UInt8) (hs : s.length ≤ 4000000000) : Calls Tryz.prog 53 #[.pointer (some ⟨g, 0, none⟩), .string (bs s)] W (SR w g W L (dataT s)) :=
  h.put hL fun A h1 _ H hB hN => by subst h1; exact data_any A _ W H hB hN s hs
theorem St.nonce (p q : Int) : Calls Tryz.prog 26 #[.pointer (some ⟨g, 0, none⟩), .int .i64 p, .int .i64 q] W (SR w g W L (nonceT p q)) :=
  h.put hL fun A h1 _ H hB hN => by subst h1; exact nonce_any A _ W H hB hN p q
theorem St.key (p : Int) : Calls Tryz.prog 54 #[.pointer (some ⟨g, 0, none⟩), .int .i64 p] W (SR w g W L (keyT p)) :=
  h.put hL fun A h1 _ H hB hN => by subst h1; exact key_any A _ W H hB hN p
theorem St.base (s : List UInt8) (hs : s.length ≤ 4000000000) : Calls Tryz.prog 28 #[.pointer (some ⟨g, 0, none⟩), .string (bs s)] W (SR w g W L (baseT s)) :=
  h.put hL fun A h1 _ H hB hN => by subst h1; exact base_any A _ W H hB hN s hs
theorem St.pub (x : Int) : Calls Tryz.prog 55 #[.pointer (some ⟨g, 0, none⟩), .int .i64 x] W (SR w g W L (pubT (get L x))) :=
  h.put hL fun A h1 h2 H hB hN => by subst h1; subst h2; exact pub_any A _ W H hB hN x
theorem St.hash (x : Int) : Calls Tryz.prog 57 #[.pointer (some ⟨g, 0, none⟩), .int .i64 x] W (SR w g W L (hashT (get L x))) :=
  h.put hL fun A h1 h2 H hB hN => by subst h1; subst h2; exact hash_any A _ W H hB hN x
theorem St.list (ys : List Int) (Aa : Option Addr) (m c : Nat) (hm : m ≤ 1000) (hY : Ints W Aa m ys) : Calls Tryz.prog 62 #[.pointer (some ⟨g, 0, none⟩), .slice Aa m c] W (SR w g W L (listT (ys.map (get L)))) :=
  h.put hL fun A h1 h2 H hB hN => by subst h1; subst h2; exact list_any A _ W H hB hN ys Aa m c hm hY
end
section
variable {w : World} {g : Nat} {W : World} {L : List Tm} (h : St w g W L)
include h
theorem St.kind (x : Int) : Calls Tryz.prog 74 #[.pointer (some ⟨g, 0, none⟩), .int .i64 x] W fun r w' => r = .returned (.int .i64 (kindO (get L x))) ∧ W = w' := by
  obtain ⟨A, rfl, rfl, H, _⟩ := h; exact kind_any A _ W H x
theorem St.len : Calls Tryz.prog 88 #[.pointer (some ⟨g, 0, none⟩)] W fun r w' => r = .returned (.int .i64 L.length) ∧ W = w' := by
  obtain ⟨A, rfl, rfl, H, _⟩ := h; rw [A.L_len]; exact len_any A _ W H
end
theorem Nm.at_ {L : List Tm} (h : L.Nodup) {x : Int} {t : Tm} {j : Nat} (hx : Nm L x (some t)) (hj : L[j]? = some t) : x = j := by
  obtain ⟨i, rfl, hi⟩ := get_some hx.1
  rw [once_inj h hi hj]
theorem Grow.old {L L' : List Tm} {t : Tm} (h : Grow L L' (some t)) (ht : t ∈ L) : L' = L := by
  rcases h with ⟨h, _⟩ | ⟨u, e, hu, _⟩
  · exact h
  · obtain rfl := Option.some.inj e; exact absurd ht hu
theorem Grow.fresh {L L' : List Tm} {t : Tm} (h : Grow L L' (some t)) (ht : t ∉ L) : L' = L ++ [t] := by
  rcases h with ⟨_, h⟩ | ⟨u, e, _, h⟩
  · exact absurd (h t rfl) ht
  · obtain rfl := Option.some.inj e; exact h
theorem Grow.none_eq {L L' : List Tm} (h : Grow L L' none) : L' = L := by
  rcases h with ⟨h, _⟩ | ⟨u, e, _⟩
  · exact h
  · cases e

def ta : Tm := .mk 1 0 0 [97] []
def tk : Tm := .mk 3 0 0 [] []
def tp : Tm := .mk 4 0 0 [] [tk]
theorem ta_eq : dataT [97] = some ta := by simp [dataT, mkO, alls, own, lens, ta]
theorem tk_eq : keyT 0 = some tk := by simp [keyT, numOk, mkO, alls, own, lens, tk]
theorem tk_len : tk.len = 5 := by rw [tk, len_mk (.inr (.inr (.inl ⟨rfl, by decide, rfl, rfl, rfl⟩)))]; simp [own, lens]
theorem tp_eq : pubT (some tk) = some tp := by
  have h := tk_len
  unfold pubT
  rw [if_pos (show kindO (some tk) = 3 from rfl)]
  simp [mkO, alls, own, lens, tp, h]
theorem St.awake1 {w : World} {g : Nat} {W : World} {L' : List Tm} {x : Int} (h : St w g W L') (hG : Grow [] L' (dataT [97])) (hM : Nm L' x (dataT [97])) : St w g W [ta] ∧ x = 0 := by
  rw [ta_eq] at hG hM
  obtain rfl := hG.fresh (by simp)
  exact ⟨h, hM.at_ h.good.once (j := 0) rfl⟩
theorem St.awake2 {w : World} {g : Nat} {W : World} {L' : List Tm} {x : Int} (h : St w g W L') (hG : Grow [ta] L' (dataT [97])) (hM : Nm L' x (dataT [97])) : St w g W [ta] ∧ x = 0 := by
  rw [ta_eq] at hG hM
  obtain rfl := hG.old (by simp)
  exact ⟨h, hM.at_ h.good.once (j := 0) rfl⟩
theorem St.awake3 {w : World} {g : Nat} {W : World} {L' : List Tm} {x : Int} (h : St w g W L') (hG : Grow [ta] L' (keyT 0)) (hM : Nm L' x (keyT 0)) : St w g W [ta, tk] ∧ x = 1 := by
  rw [tk_eq] at hG hM
  obtain rfl := hG.fresh (by simp [ta, tk])
  exact ⟨h, hM.at_ h.good.once (j := 1) rfl⟩
theorem St.awake4 {w : World} {g : Nat} {W : World} {L' : List Tm} {x : Int} (h : St w g W L') (hG : Grow [ta, tk] L' (pubT (get [ta, tk] 1))) (hM : Nm L' x (pubT (get [ta, tk] 1))) : St w g W [ta, tk, tp] ∧ x = 2 := by
  rw [show get [ta, tk] 1 = some tk from rfl, tp_eq] at hG hM
  obtain rfl := hG.fresh (by simp [ta, tk, tp])
  exact ⟨h, hM.at_ h.good.once (j := 2) rfl⟩
end

section
open Go.RowKit Go.Maps

/-- A number that a word of 64 bits holds. -/
def i64 (x : Int) : Prop := -9223372036854775808 ≤ x ∧ x ≤ 9223372036854775807
theorem i64_wf {x : Int} (h : i64 x) : (Lit.int .i64 x).wf = true := by
  simp only [Lit.wf, Bool.and_eq_true, decide_eq_true_eq, show IntKind.i64.min = -9223372036854775808 by decide, show IntKind.i64.max = 9223372036854775807 by decide]
  exact h
theorem i64_small {x : Int} (h1 : -1000000 ≤ x) (h2 : x ≤ 1000000) : i64 x := by unfold i64; omega
def IMap (w : World) (b n : Nat) (f : Int → Option Int) : Prop :=
  ∃ D : DataW Unit, w.ownsMap Tryz.prog 33 (plainElem Tryz.prog 3) b n D ∧ ∀ x, i64 x → Maps.has D (.int .i64 x) = (f x).isSome ∧ ∀ z, D.atKey (.int .i64 x) (.lit (.int .i64 z)) = .lit (.int .i64 ((f x).getD z))
theorem id_keyed : Keyed Tryz.prog 33 := int_keyed Tryz.underlying33
theorem id_keyOf {x : Int} (h : i64 x) : keyOf Tryz.prog 33 (.int .i64 x) = some (.int .i64 x) := keyOf_int_mk Tryz.underlying33 (i64_wf h)
theorem int_zero0 (w : World) : (zeroValue 3).run Tryz.prog w = .ok (.int .i64 0) w := by rw [Tryz.zeroValue3]
theorem IMap.lt {w : World} {b n : Nat} {f : Int → Option Int} (h : IMap w b n f) : b < w.heap.size := by obtain ⟨D, hD, _⟩ := h; exact hD.lt
theorem IMap.kept {w w' : World} {row : Option Nat} {b n : Nat} {f : Int → Option Int} (h : IMap w b n f) (hg : w.grownBy w' row) (hne : some b ≠ row) : IMap w' b n f := by
  obtain ⟨D, hD, h2⟩ := h
  exact ⟨D, hD.kept hg hne, h2⟩
theorem IMap.keep {w w' : World} {b n : Nat} {f : Int → Option Int} (h : IMap w b n f) (hb : Below w.heap.size w w') : IMap w' b n f := by
  obtain ⟨D, ⟨es, clock, hblk, F, hs, hD⟩, h2⟩ := h
  exact ⟨D, ⟨es, clock, (hb.block b (Array.getElem?_eq_some_iff.1 hblk).1).trans hblk, F, hs, hD⟩, h2⟩
theorem IMap.made (w : World) : IMap (w.alloc (.map #[] 0)) w.heap.size 0 (fun _ => none) :=
  ⟨.map [], World.ownsMap_made w _ _ _, fun x _ => ⟨by simp [Maps.has, DataW.atKey], fun z => by simp [DataW.atKey]⟩⟩
/-- 'v, ok := m[k]'. -/
theorem IMap.look {w : World} {b n : Nat} {f : Int → Option Int} (h : IMap w b n f) {x : Int} (hx : i64 x) :
    (Instr.lookup 69 (.map (some b)) (.int .i64 x) true).run Tryz.prog w = .ok (.tuple #[.int .i64 ((f x).getD 0), .bool (f x).isSome]) w := by
  obtain ⟨D, hD, h2⟩ := h
  obtain ⟨v, ps, hrun, hv⟩ := hD.look_ok id_keyed Tryz.underlying69 (int_zero0 _) (zd := .lit (.int .i64 0)) (zp := []) (plainElem_int Tryz.underlying3 (by decide)) (id_keyOf hx)
  obtain ⟨c, rfl, hc, _⟩ := plainElem_int_inv Tryz.underlying3 hv
  simp only [Prod.mk.injEq] at hc
  have h3 := (h2 x hx).2 0
  rw [hc.1] at h3
  have hcc : c = (f x).getD 0 := (Lit.int.inj (DataW.lit.inj h3)).2
  rw [← hcc, ← (h2 x hx).1]
  exact hrun
/-- 'm[k]'. -/
theorem IMap.look1 {w : World} {b n : Nat} {f : Int → Option Int} (h : IMap w b n f) {x : Int} (hx : i64 x) :
    (Instr.lookup 69 (.map (some b)) (.int .i64 x) false).run Tryz.prog w = .ok (.int .i64 ((f x).getD 0)) w := by
  obtain ⟨D, hD, h2⟩ := h
  obtain ⟨c, hrun, hc, _⟩ := hD.lookup_int id_keyed Tryz.underlying69 Tryz.underlying3 (int_zero0 _) (id_keyOf hx)
  have h3 := (h2 x hx).2 0
  rw [hc] at h3
  have hcc : c = (f x).getD 0 := (Lit.int.inj (DataW.lit.inj h3)).2
  rw [← hcc]
  exact hrun
def setF (f : Int → Option Int) (x v : Int) : Int → Option Int := fun y => if y = x then some v else f y
theorem isMap_of {w : World} {b n : Nat} {D : DataW Unit} (h : w.ownsMap Tryz.prog 33 (plainElem Tryz.prog 3) b n D) : IsMap D := h.isMap
/-- 'm[k] = v'. -/
theorem IMap.set_ {w : World} {b n : Nat} {f : Int → Option Int} (h : IMap w b n f) (hn : n < 1000000) {x v : Int} (hx : i64 x) (hv : i64 v) :
    ∃ w', (Instr.mapUpdate 69 (.map (some b)) (.int .i64 x) (.int .i64 v)).run Tryz.prog w = .ok () w' ∧ IMap w' b (n + 1) (setF f x v) ∧ w.grownBy w' (some b) := by
  obtain ⟨D, hD, h2⟩ := h
  obtain ⟨w', hrun, hD', hg⟩ := hD.update id_keyed Tryz.underlying69 (by unfold maxLen; omega) (id_keyOf hx) (plainElem_int (a := v) Tryz.underlying3 (i64_wf hv))
  refine ⟨w', hrun, ⟨_, hD', fun y hy => ?_⟩, hg⟩
  unfold setF
  by_cases e : y = x
  · subst e
    rw [if_pos rfl]
    exact ⟨has_put_same hD.isMap (by trivial) _, fun z => atKey_put_same hD.isMap (by trivial) _ _⟩
  · have hne : (Lit.int .i64 y) ≠ .int .i64 x := fun h => e (Lit.int.inj h).2
    rw [if_neg e]
    exact ⟨by rw [has_put_other hne]; exact (h2 y hy).1, fun z => by rw [atKey_put_other hne]; exact (h2 y hy).2 z⟩
end

section
open Go.RowKit

theorem bss_size (l : List UInt8) : (⟨l.toArray⟩ : ByteArray).size = l.length := by simp [ByteArray.size]
theorem bs_add (l m : List UInt8) : bs l ++ bs m = bs (l ++ m) := by
  apply ByteArray.ext
  simp [bs]
theorem nums_bs (l : List Nat) : strOfNums (l.map fun x : Nat => (x : Int)) = bs (l.map UInt8.ofNat) := by
  unfold strOfNums bs
  congr 1
  simp [List.map_map, Function.comp_def]
theorem conv_nums (w : World) (l : List Nat) : (convert 96 9 (.slice (some ⟨w.heap.size, 0, none⟩) l.length l.length)).run Tryz.prog (w.alloc (.cells (l.map (fun x : Nat => Value.int .u8 x)).toArray 5)) = .ok (.string (bs (l.map UInt8.ofNat))) (w.alloc (.cells (l.map (fun x : Nat => Value.int .u8 x)).toArray 5)) := by
  have h := run_convert_bytes_arg (P := Tryz.prog) (w.alloc (.cells (l.map (fun x : Nat => Value.int .u8 x)).toArray 5)) 96 5 Tryz.underlying96 Tryz.underlying5 w.heap.size 0 l.length l.length (l.map fun x : Nat => (x : Int)) (by simp) (fun i hi => by
    rw [Nat.zero_add, World.cell?_alloc_at _ _ _ _ rfl]
    simp [List.getElem?_eq_getElem hi, List.getD_eq_getElem?_getD]) 9 Tryz.underlying9
  rw [nums_bs] at h
  exact h
theorem u32_nums (n : Nat) : u32 n = [n / 16777216 % 256, n / 65536 % 256, n / 256 % 256, n % 256].map UInt8.ofNat := rfl
theorem ret_bs {a b : List UInt8} (h : a = b) : Ending.returned (.string (bs a)) = .returned (.string (bs b)) := by rw [h]
/-- A call that makes a text, and only new blocks. -/
def TxR (w : World) (l : List UInt8) (r : Ending) (w' : World) : Prop := r = .returned (.string (bs l)) ∧ Below w.heap.size w w'

set_option maxRecDepth 100000 in
theorem rU32_any (n : Nat) (w : World) (h1 : n < 4294967296) :
    Calls Tryz.prog 97 #[.int .i64 n] w (TxR w (u32 n)) := by
  have kc : (convert 96 9 (.slice (some ⟨w.heap.size, 0, none⟩) 4 4)).run Tryz.prog (w.alloc (.cells #[.int .u8 ((n : Int) / 16777216 % 256), .int .u8 ((n : Int) / 65536 % 256), .int .u8 ((n : Int) / 256 % 256), .int .u8 ((n : Int) % 256)] 5)) = .ok (.string (bs (u32 n))) (w.alloc (.cells #[.int .u8 ((n : Int) / 16777216 % 256), .int .u8 ((n : Int) / 65536 % 256), .int .u8 ((n : Int) / 256 % 256), .int .u8 ((n : Int) % 256)] 5)) := by
    have h := conv_nums w [n / 16777216 % 256, n / 65536 % 256, n / 256 % 256, n % 256]
    rw [← u32_nums] at h
    simpa using h
  have hB := Lib.hid ((Below.refl w.heap.size w).alloc (Nat.le_refl _) (.cells #[.int .u8 ((n : Int) / 16777216 % 256), .int .u8 ((n : Int) / 65536 % 256), .int .u8 ((n : Int) / 256 % 256), .int .u8 ((n : Int) % 256)] 5))
  go_enter Tryz.func97, Tryz.ntmps97
  go_wp2
  go_ret
  exact ⟨rfl, hB.out⟩
theorem rTag_any (n : Nat) (w : World) (h1 : n < 16) :
    Calls Tryz.prog 96 #[.int .i64 n] w (TxR w [UInt8.ofNat (240 + n)]) := by
  have kc : (convert 96 9 (.slice (some ⟨w.heap.size, 0, none⟩) 1 1)).run Tryz.prog (w.alloc (.cells #[.int .u8 (240 + (n : Int))] 5)) = .ok (.string (bs [UInt8.ofNat (240 + n)])) (w.alloc (.cells #[.int .u8 (240 + (n : Int))] 5)) := by
    have h := conv_nums w [240 + n]
    simpa using h
  have hB := Lib.hid ((Below.refl w.heap.size w).alloc (Nat.le_refl _) (.cells #[.int .u8 (240 + (n : Int))] 5))
  have hT : bs [UInt8.ofNat (240 + n)] = bs [240 + UInt8.ofNat n] := by rw [UInt8.ofNat_add]; rfl
  unfold TxR
  rw [hT]
  rw [hT] at kc
  clear hT
  go_enter Tryz.func96, Tryz.ntmps96
  go_wp2
  go_ret
  exact ⟨rfl, hB.out⟩
def fitsL (l : List UInt8) : List UInt8 := if l.length ≤ 131072 then l else []
theorem rFits_any (l : List UInt8) (w : World) (h : l.length ≤ 4000000000) :
    Calls Tryz.prog 95 #[.string (bs l)] w fun r w' => r = .returned (.string (bs (fitsL l))) ∧ w = w' := by
  have hz := bs_size l
  by_cases h1 : l.length ≤ 131072
  · have e : fitsL l = l := by unfold fitsL; rw [if_pos h1]
    rw [e]
    have h2 : (bs l).size ≤ 131072 := by omega
    clear hz h h1 e
    go_enter Tryz.func95, Tryz.ntmps95
    go_wp2
    go_ret
    exact ⟨rfl, rfl⟩
  · have e : fitsL l = [] := by unfold fitsL; rw [if_neg h1]
    rw [e]
    have h2 : 131072 < (bs l).size := by omega
    have h3 : (bs l).size ≤ 4000000000 := by omega
    clear hz h h1 e
    go_enter Tryz.func95, Tryz.ntmps95
    go_wp2
    go_ret
    exact ⟨rfl, rfl⟩
theorem rNumber_any (n : Int) (w : World) :
    Calls Tryz.prog 98 #[.int .i64 n] w fun r w' => r = .returned (.bool (decide (numOk n))) ∧ w = w' := by
  by_cases h0 : 0 ≤ n
  · go_enter Tryz.func98, Tryz.ntmps98
    go_wp2
    go_ret
    exact ⟨ret_bool (by unfold numOk; simp [h0]), rfl⟩
  · have hn : ¬ numOk n := fun h => h0 h.1
    rw [decide_eq_false hn]
    go_enter Tryz.func98, Tryz.ntmps98
    go_wp2
    go_ret
    exact ⟨rfl, rfl⟩
theorem rText_any (s : List UInt8) (m : Nat) (w : World) (hs : s.length ≤ 4000000000) :
    Calls Tryz.prog 99 #[.string (bs s), .int .i64 m] w fun r w' => r = .returned (.bool (decide (txtOk s m))) ∧ w = w' := by
  have hz := bs_size s
  by_cases h0 : 1 ≤ s.length
  · have h1 : 1 ≤ (bs s).size := by omega
    have h2 : (bs s).size ≤ 4000000000 := by omega
    go_enter Tryz.func99, Tryz.ntmps99
    go_wp2
    go_ret
    exact ⟨ret_bool (by unfold txtOk; simp [h0, hz]), rfl⟩
  · have hn : ¬ txtOk s m := fun h => h0 h.1
    have h1 : (bs s).size = 0 := by omega
    rw [decide_eq_false hn]
    clear h0 hn hz
    go_enter Tryz.func99, Tryz.ntmps99
    go_wp2
    go_ret
    exact ⟨rfl, rfl⟩
end

section
theorem bsl (s : ByteArray) : s.toList = s.data.toList := ByteArray.toList_eq s
theorem bsl_len (s : ByteArray) : s.toList.length = s.size := by rw [bsl]; exact Array.length_toList
theorem bsl_ext (s : ByteArray) (a b : Nat) : (s.extract a b).toList = (s.toList.take b).drop a := by
  rw [bsl, bsl, ByteArray.data_extract, Array.toList_extract]
  rw [List.extract_eq_take_drop, List.drop_take]
theorem bsl_tail (s : ByteArray) (a : Nat) : (s.extract a s.size).toList = s.toList.drop a := by
  rw [bsl_ext, List.take_of_length_le (by rw [bsl_len]; exact Nat.le_refl _)]
theorem bsl_head (s : ByteArray) (b : Nat) : (s.extract 0 b).toList = s.toList.take b := by
  rw [bsl_ext, List.drop_zero]
theorem bsl_get {s : ByteArray} {i : Nat} (h : i < s.size) : s.toList[i]? = some s[i] := by
  rw [bsl, Array.getElem?_toList]
  exact Array.getElem?_eq_getElem h
theorem bsl_app (s t : ByteArray) : (s ++ t).toList = s.toList ++ t.toList := by
  rw [bsl, bsl, bsl]; simp
theorem bsl_cons {s : ByteArray} {k : Nat} (h : k < s.size) : s.toList.drop k = s[k] :: s.toList.drop (k + 1) := by
  have hl : k < s.toList.length := by rw [bsl_len]; exact h
  rw [List.drop_eq_getElem_cons hl]
  congr 1
  have := bsl_get h
  rw [List.getElem?_eq_getElem hl] at this
  injection this
theorem bsl_end {s : ByteArray} {k : Nat} (h : s.size ≤ k) : s.toList.drop k = [] := List.drop_of_length_le (by rw [bsl_len]; exact h)
theorem bs_ext {x y : ByteArray} (h : x.toList = y.toList) : x = y := by
  rw [ByteArray.toList_eq, ByteArray.toList_eq] at h
  cases x; cases y
  simp only [ByteArray.mk.injEq]
  exact Array.toList_inj.1 h
theorem bs_eq {x y : ByteArray} (h : (x.toList == y.toList) = true) : x = y := bs_ext (by simpa using h)
theorem bs_ne {x y : ByteArray} (h : (x.toList == y.toList) = false) : x ≠ y := by
  rintro rfl
  simp at h
end

section
open Go.RowKit

theorem enc_head {t : Tm} (h : t.ok) : ∃ r, t.enc = UInt8.ofNat (240 + t.kind) :: r ∧ 1 ≤ t.kind ∧ t.kind ≤ 10 := by
  obtain ⟨k, a, b, s, args⟩ := t
  rw [ok_mk] at h
  rw [enc_mk]
  exact ⟨_, rfl, okHd_kind h.1⟩
theorem rKind_any (o : Option Tm) (ho : okO o) (hl : (encO o).length ≤ 4000000000) (w : World) :
    Calls Tryz.prog 40 #[.string (bs (encO o))] w fun r w' => r = .returned (.int .i64 (kindO o)) ∧ w = w' := by
  cases o with
  | none =>
    go_enter Tryz.func40, Tryz.ntmps40
    go_wp2
    go_ret
    exact ⟨rfl, rfl⟩
  | some t =>
    obtain ⟨r, hr, h1, h2⟩ := enc_head (ho t rfl)
    have hz := bs_size t.enc
    have hk : kindO (some t) = t.kind := rfl
    rw [hk]
    rw [show encO (some t) = t.enc from rfl] at hl ⊢
    have hi : ∀ h, (bs t.enc)[0]'h = UInt8.ofNat (240 + t.kind) := by
      rw [hr]
      intro h
      rfl
    have hpos : 0 < (bs t.enc).size := by rw [hz, hr]; simp
    have hz2 : (bs t.enc).size ≤ 4000000000 := by omega
    generalize t.kind = k at *
    generalize bs t.enc = x at *
    have hm : (240 + (k : Int)) % 256 = 240 + (k : Int) := by omega
    have hx : ¬ x = ByteArray.empty := fun e => by rw [e] at hpos; exact absurd hpos (by decide)
    have hx2 : ((x.size : Int) == 0) = false := by rw [beq_eq_false_iff_ne]; omega
    have d1 : decide (240 + (k : Int) < 241) = false := decide_eq_false (by omega)
    have d2 : decide (250 < 240 + (k : Int)) = false := decide_eq_false (by omega)
    clear hr hz
    go_enter Tryz.func40, Tryz.ntmps40
    go_wp2
    go_ret
    exact ⟨ret_int (by omega), rfl⟩
end

section
open Go.RowKit

set_option maxRecDepth 100000 in
theorem rNum4_any (X : ByteArray) (p : Nat) (c0 c1 c2 c3 : UInt8) (w : World) (hX : X.size ≤ 4000000000) (h4 : p + 4 ≤ X.size)
    (i0 : ∀ h, X[p]'h = c0) (i1 : ∀ h, X[p + 1]'h = c1) (i2 : ∀ h, X[p + 2]'h = c2) (i3 : ∀ h, X[p + 3]'h = c3) :
    Calls Tryz.prog 108 #[.string X, .int .i64 p] w fun r w' => r = .returned (.tuple #[.int .i64 ((c0.toNat : Int) * 16777216 + c1.toNat * 65536 + c2.toNat * 256 + c3.toNat), .bool true]) ∧ Below w.heap.size w w' := by
  have b0 : (c0.toNat : Int) < 256 := by have := c0.toNat_lt; omega
  have b1 : (c1.toNat : Int) < 256 := by have := c1.toNat_lt; omega
  have b2 : (c2.toNat : Int) < 256 := by have := c2.toNat_lt; omega
  have b3 : (c3.toNat : Int) < 256 := by have := c3.toNat_lt; omega
  have l2 : ¬ ((X.size : Int) - (p : Int) < 4) := by omega
  have z0 : (0 : Int) ≤ (p : Int) := by omega
  have y0 : (p : Int) < (X.size : Int) := by omega
  have z1 : (0 : Int) ≤ (p : Int) + 1 := by omega
  have y1 : (p : Int) + 1 < (X.size : Int) := by omega
  have t1 : ((p : Int) + 1).toNat = p + 1 := by omega
  have z2 : (0 : Int) ≤ (p : Int) + 2 := by omega
  have y2 : (p : Int) + 2 < (X.size : Int) := by omega
  have t2 : ((p : Int) + 2).toNat = p + 2 := by omega
  have z3 : (0 : Int) ≤ (p : Int) + 3 := by omega
  have y3 : (p : Int) + 3 < (X.size : Int) := by omega
  have t3 : ((p : Int) + 3).toNat = p + 3 := by omega
  go_enter Tryz.func108, Tryz.ntmps108
  go_upto_region 3 with fail
  go_quiet (fail)
  go_wp2_with fail
  go_ret2
  exact ⟨rfl, drewN_below nq⟩
/-- The bytes of a text from a place on. -/
theorem bs_at {l : List UInt8} {p : Nat} {c : UInt8} (hc : l[p]? = some c) : ∀ h, (bs l)[p]'h = c := by
  intro h
  have hp := (List.getElem?_eq_some_iff.1 hc)
  have : (bs l)[p]'h = l[p]'hp.1 := rfl
  rw [this, hp.2]
theorem u32_val (n : Nat) (h : n < 4294967296) : ∃ c0 c1 c2 c3 : UInt8, u32 n = [c0, c1, c2, c3] ∧ (c0.toNat : Int) * 16777216 + c1.toNat * 65536 + c2.toNat * 256 + c3.toNat = n := by
  refine ⟨_, _, _, _, rfl, ?_⟩
  rw [UInt8.toNat_ofNat', UInt8.toNat_ofNat', UInt8.toNat_ofNat', UInt8.toNat_ofNat']
  omega
/-- Where a number's four bytes stand. -/
theorem at_u32 {l : List UInt8} {p n : Nat} {r : List UInt8} (h : l.drop p = u32 n ++ r) (hn : n < 4294967296) : p + 4 ≤ l.length ∧ ∃ c0 c1 c2 c3 : UInt8, l[p]? = some c0 ∧ l[p + 1]? = some c1 ∧ l[p + 2]? = some c2 ∧ l[p + 3]? = some c3 ∧ (c0.toNat : Int) * 16777216 + c1.toNat * 65536 + c2.toNat * 256 + c3.toNat = n := by
  obtain ⟨c0, c1, c2, c3, e, hv⟩ := u32_val n hn
  rw [e] at h
  have hl := congrArg List.length h
  rw [List.length_drop] at hl
  simp at hl
  have g : ∀ i, l[p + i]? = ([c0, c1, c2, c3] ++ r)[i]? := fun i => by rw [← h, List.getElem?_drop]
  exact ⟨by omega, c0, c1, c2, c3, g 0, g 1, g 2, g 3, hv⟩
theorem rNumber4 (l : List UInt8) (p n : Nat) (r : List UInt8) (w : World) (hl : l.length ≤ 4000000000) (h : l.drop p = u32 n ++ r) (hn : n < 4294967296) :
    Calls Tryz.prog 108 #[.string (bs l), .int .i64 p] w fun r w' => r = .returned (.tuple #[.int .i64 n, .bool true]) ∧ Below w.heap.size w w' := by
  obtain ⟨h4, c0, c1, c2, c3, e0, e1, e2, e3, hv⟩ := at_u32 h hn
  have c := rNum4_any (bs l) p c0 c1 c2 c3 w (by rw [bs_size]; exact hl) (by rw [bs_size]; exact h4) (bs_at e0) (bs_at e1) (bs_at e2) (bs_at e3)
  rw [hv] at c
  exact c
theorem bs_extract (l : List UInt8) (i j : Nat) : (bs l).extract i j = bs ((l.take j).drop i) := by
  apply ByteArray.ext
  apply Array.ext'
  rw [ByteArray.data_extract, Array.toList_extract, List.extract_eq_take_drop]
  simp [bs, List.drop_take]
theorem rText4 (l : List UInt8) (p : Nat) (s r : List UInt8) (w : World) (hl : l.length ≤ 4000000000) (h : l.drop p = u32 s.length ++ (s ++ r)) :
    Calls Tryz.prog 107 #[.string (bs l), .int .i64 p] w fun r w' => r = .returned (.tuple #[.string (bs s), .int .i64 ((p + 4 + s.length : Nat) : Int), .bool true]) ∧ Below w.heap.size w w' := by
  have hlen := congrArg List.length h
  rw [List.length_drop, List.length_append, u32_len, List.length_append] at hlen
  have c := Lib.hid (rNumber4 l p s.length (s ++ r) w hl h (by omega))
  have hz := bs_size l
  have hx : (bs l).extract (p + 4) (p + 4 + s.length) = bs s := by
    rw [bs_extract]
    have e1 : l.drop (p + 4) = s ++ r := by
      have := congrArg (List.drop 4) h
      rw [List.drop_drop] at this
      rw [this]
      rfl
    rw [List.drop_take, Nat.add_sub_cancel_left, e1, List.take_left]
  have b1 : p + 4 + s.length ≤ (bs l).size := by omega
  have b2 : (bs l).size ≤ 4000000000 := by omega
  generalize s.length = m at *
  have hx := hx
  generalize bs l = X at *
  clear hlen h hz hl
  rw [show ((p + 4 + m : Nat) : Int) = (p : Int) + 4 + (m : Int) by omega]
  have l1 : ¬ ((X.size : Int) - (p : Int) - 4 < (m : Int)) := by omega
  have t1 : ((p : Int) + 4).toNat = p + 4 := by omega
  have t2 : ((p : Int) + 4 + (m : Int)).toNat = p + 4 + m := by omega
  go_enter Tryz.func107, Tryz.ntmps107
  go_wp2_with (go_at_call 108; refine c.out.mono ?_; rintro r w1 ⟨rfl, hb⟩)
  go_ret3
  exact ⟨rfl, hb⟩
end

section
open Go.RowKit

theorem encO_mkO {k a b : Nat} {s : List UInt8} {l : List Tm} (h : okHd k a b s l.length) : encO (mkO k a b s (l.map some)) = fitsL (UInt8.ofNat (240 + k) :: (hd k a b s l.length ++ encs l)) := by
  unfold mkO
  rw [alls_map]
  have hl := len_mk h
  unfold Tm.len at hl
  rw [enc_mk] at hl
  dsimp only
  unfold fitsL
  rw [hl]
  split
  · show (Tm.mk k a b s l).enc = _
    rw [enc_mk]
  · rfl
theorem fitsL_id {l : List UInt8} (h : l.length ≤ 131072) : fitsL l = l := by unfold fitsL; rw [if_pos h]
theorem cat2 {x y : ByteArray} {a b : List UInt8} (hx : x = bs a) (hy : y = bs b) : x ++ y = bs (a ++ b) := by rw [hx, hy, bs_add]
theorem key_enc {t : Tm} (h : t.ok) (hk : t.kind = 3) : t.enc.length = 5 := by
  obtain ⟨k, a, b, s, args⟩ := t
  have hk : k = 3 := hk
  subst hk
  rw [ok_mk] at h
  have h1 := h.1
  have h2 := len_mk h1
  unfold okHd at h1
  simp only [reduceCtorEq, false_and, or_false, false_or, true_and, Nat.reduceEqDiff] at h1
  obtain rfl := List.eq_nil_of_length_eq_zero h1.2.2.2
  unfold Tm.len at h2
  rw [h2]
  obtain ⟨_, _, rfl, _⟩ := h1
  rfl
theorem encO_dataT (s : List UInt8) : encO (dataT s) = if s.length ≤ 131072 then fitsL ([UInt8.ofNat (240 + 1)] ++ u32 s.length ++ s) else [] := by
  split
  · rename_i h
    have := encO_mkO (k := 1) (a := 0) (b := 0) (s := s) (l := []) (.inl ⟨rfl, rfl, rfl, rfl, h⟩)
    simpa [dataT, hd, encs] using this
  · rename_i h
    unfold dataT mkO
    have : own 1 s.length = 5 + s.length := rfl
    simp only [alls, lens, this]
    rw [if_neg (by simp; omega)]
    rfl
theorem rData_any (s : List UInt8) (w : World) (hs : s.length ≤ 4000000000) :
    Calls Tryz.prog 63 #[.string (bs s)] w (TxR w (encO (dataT s))) := by
  have hz := bs_size s
  rw [encO_dataT]
  by_cases h : s.length ≤ 131072
  · rw [if_pos h]
    have c1 := fun W => rTag_any 1 W (by decide)
    have c2 := fun W => rU32_any s.length W (by omega)
    have c3 := fun W => rFits_any ([UInt8.ofNat (240 + 1)] ++ u32 s.length ++ s) W (by simp [u32_len]; omega)
    have hcat : bs [UInt8.ofNat (240 + 1)] ++ bs (u32 s.length) ++ bs s = bs ([UInt8.ofNat (240 + 1)] ++ u32 s.length ++ s) := by rw [bs_add, bs_add]
    have z1 := bs_size [UInt8.ofNat (240 + 1)]
    have z2 := bs_size (u32 s.length)
    rw [u32_len] at z2
    unfold TxR at c1 c2 ⊢
    rw [← hcat] at c3
    generalize bs [UInt8.ofNat (240 + 1)] = x1 at *
    generalize bs (u32 s.length) = x2 at *
    simp only [List.length_singleton] at z1
    rw [← hz] at c2 h
    generalize bs s = x3 at *
    have c1 := Lib.hid c1
    have c2 := Lib.hid c2
    have c3 := Lib.hid c3
    generalize fitsL ([UInt8.ofNat (240 + 1)] ++ u32 s.length ++ s) = res at *
    clear hcat hz hs
    go_enter Tryz.func63, Tryz.ntmps63
    go_wp2_with (first
      | (go_at_call 96; refine (c1.out _).mono ?_; rintro r w1 ⟨rfl, hb1⟩)
      | (go_at_call 97; refine (c2.out _).mono ?_; rintro r w2 ⟨rfl, hb2⟩; have hB := Lib.hid (hb1.trans (hb2.mono hb1.size)); clear hb1 hb2)
      | (go_at_call 95; refine (c3.out _).mono ?_; rintro r w3 ⟨rfl, rfl⟩))
    go_ret
    exact ⟨rfl, hB.out⟩
  · rw [if_neg h]
    have h2 : 131072 < (bs s).size := by omega
    have h3 : (bs s).size ≤ 4000000000 := by omega
    clear h hs hz
    go_enter Tryz.func63, Tryz.ntmps63
    go_wp2
    go_ret
    exact ⟨rfl, Below.refl _ _⟩
theorem encO_nonceT {p q : Nat} (h1 : p ≤ 2147483647) (h2 : q ≤ 2147483647) : encO (nonceT p q) = [UInt8.ofNat (240 + 2)] ++ u32 p ++ u32 q := by
  have := encO_mkO (k := 2) (a := p) (b := q) (s := []) (l := []) (.inr (.inl ⟨rfl, h1, h2, rfl, rfl⟩))
  unfold nonceT
  rw [if_pos ⟨by unfold numOk; omega, by unfold numOk; omega⟩, Int.toNat_natCast, Int.toNat_natCast]
  rw [fitsL_id (by simp [hd, encs, u32_len])] at this
  simpa [hd, encs] using this
theorem rNonce_any (p q : Int) (w : World) :
    Calls Tryz.prog 64 #[.int .i64 p, .int .i64 q] w (TxR w (encO (nonceT p q))) := by
  have cp := Lib.hid (fun W => rNumber_any p W)
  have cq := Lib.hid (fun W => rNumber_any q W)
  by_cases h : numOk p ∧ numOk q
  · obtain ⟨⟨p0, p1⟩, q0, q1⟩ := h
    have hp : numOk p := ⟨p0, p1⟩
    have hq : numOk q := ⟨q0, q1⟩
    rw [decide_eq_true hp] at cp
    rw [decide_eq_true hq] at cq
    obtain ⟨i, rfl⟩ := Int.eq_ofNat_of_zero_le p0
    obtain ⟨j, rfl⟩ := Int.eq_ofNat_of_zero_le q0
    rw [encO_nonceT (by omega) (by omega)]
    have c1 := fun W => rTag_any 2 W (by decide)
    have c2 := fun W => rU32_any i W (by omega)
    have c3 := fun W => rU32_any j W (by omega)
    have hcat : bs [UInt8.ofNat (240 + 2)] ++ bs (u32 i) ++ bs (u32 j) = bs ([UInt8.ofNat (240 + 2)] ++ u32 i ++ u32 j) := by rw [bs_add, bs_add]
    have z1 := bs_size [UInt8.ofNat (240 + 2)]
    have z2 := bs_size (u32 i)
    have z3 := bs_size (u32 j)
    rw [u32_len] at z2 z3
    unfold TxR at c1 c2 c3 ⊢
    rw [← hcat]
    generalize bs [UInt8.ofNat (240 + 2)] = x1 at *
    generalize bs (u32 i) = x2 at *
    generalize bs (u32 j) = x3 at *
    simp only [List.length_singleton] at z1
    have c1 := Lib.hid c1
    have c2 := Lib.hid c2
    have c3 := Lib.hid c3
    clear hcat hp hq p0 q0 p1 q1
    go_enter Tryz.func64, Tryz.ntmps64
    go_wp2_with (first
      | (go_at_call 98; (with_reducible refine (cp.out _).mono ?_); rintro r w1 ⟨rfl, rfl⟩)
      | (go_at_call 98; (with_reducible refine (cq.out _).mono ?_); rintro r w1 ⟨rfl, rfl⟩)
      | (go_at_call 96; refine (c1.out _).mono ?_; rintro r w1 ⟨rfl, hb1⟩)
      | (go_at_call 97; (with_reducible refine (c2.out _).mono ?_); rintro r w2 ⟨rfl, hb2⟩; have hB := Lib.hid (hb1.trans (hb2.mono hb1.size)); clear hb1 hb2)
      | (go_at_call 97; (with_reducible refine (c3.out _).mono ?_); rintro r w3 ⟨rfl, hb3⟩; have hB3 := Lib.hid (hB.out.trans (hb3.mono hB.out.size)); clear hb3))
    go_ret
    exact ⟨rfl, hB3.out⟩
  · have e : nonceT p q = none := by unfold nonceT; rw [if_neg h]
    rw [e]
    by_cases h1 : numOk p
    · have h2 : ¬ numOk q := fun h2 => h ⟨h1, h2⟩
      rw [decide_eq_true h1] at cp
      rw [decide_eq_false h2] at cq
      clear e h h1 h2
      go_enter Tryz.func64, Tryz.ntmps64
      go_wp2_with (first
        | (go_at_call 98; (with_reducible refine (cp.out _).mono ?_); rintro r w1 ⟨rfl, rfl⟩)
        | (go_at_call 98; (with_reducible refine (cq.out _).mono ?_); rintro r w1 ⟨rfl, rfl⟩))
      go_ret
      exact ⟨rfl, Below.refl _ _⟩
    · rw [decide_eq_false h1] at cp
      clear e h h1 cq
      go_enter Tryz.func64, Tryz.ntmps64
      go_wp2_with (go_at_call 98; (with_reducible refine (cp.out _).mono ?_); rintro r w1 ⟨rfl, rfl⟩)
      go_ret
      exact ⟨rfl, Below.refl _ _⟩
theorem encO_keyT {p : Nat} (h1 : p ≤ 2147483647) : encO (keyT p) = [UInt8.ofNat (240 + 3)] ++ u32 p := by
  have := encO_mkO (k := 3) (a := p) (b := 0) (s := []) (l := []) (.inr (.inr (.inl ⟨rfl, h1, rfl, rfl, rfl⟩)))
  unfold keyT
  rw [if_pos (by unfold numOk; omega), Int.toNat_natCast]
  rw [fitsL_id (by simp [hd, encs, u32_len])] at this
  simpa [hd, encs] using this
theorem rKey_any (p : Int) (w : World) :
    Calls Tryz.prog 65 #[.int .i64 p] w (TxR w (encO (keyT p))) := by
  have cp := Lib.hid (fun W => rNumber_any p W)
  by_cases hp : numOk p
  · obtain ⟨p0, p1⟩ := hp
    have hp : numOk p := ⟨p0, p1⟩
    rw [decide_eq_true hp] at cp
    obtain ⟨i, rfl⟩ := Int.eq_ofNat_of_zero_le p0
    rw [encO_keyT (by omega)]
    have c1 := fun W => rTag_any 3 W (by decide)
    have c2 := fun W => rU32_any i W (by omega)
    have hcat : bs [UInt8.ofNat (240 + 3)] ++ bs (u32 i) = bs ([UInt8.ofNat (240 + 3)] ++ u32 i) := by rw [bs_add]
    have z1 := bs_size [UInt8.ofNat (240 + 3)]
    have z2 := bs_size (u32 i)
    rw [u32_len] at z2
    unfold TxR at c1 c2 ⊢
    rw [← hcat]
    generalize bs [UInt8.ofNat (240 + 3)] = x1 at *
    generalize bs (u32 i) = x2 at *
    simp only [List.length_singleton] at z1
    have c1 := Lib.hid c1
    have c2 := Lib.hid c2
    clear hcat hp p0 p1
    go_enter Tryz.func65, Tryz.ntmps65
    go_wp2_with (first
      | (go_at_call 98; (with_reducible refine (cp.out _).mono ?_); rintro r w1 ⟨rfl, rfl⟩)
      | (go_at_call 96; refine (c1.out _).mono ?_; rintro r w1 ⟨rfl, hb1⟩)
      | (go_at_call 97; (with_reducible refine (c2.out _).mono ?_); rintro r w2 ⟨rfl, hb2⟩; have hB := Lib.hid (hb1.trans (hb2.mono hb1.size)); clear hb1 hb2))
    go_ret
    exact ⟨rfl, hB.out⟩
  · have e : keyT p = none := by unfold keyT; rw [if_neg hp]
    rw [e]
    rw [decide_eq_false hp] at cp
    clear e hp
    go_enter Tryz.func65, Tryz.ntmps65
    go_wp2_with (go_at_call 98; (with_reducible refine (cp.out _).mono ?_); rintro r w1 ⟨rfl, rfl⟩)
    go_ret
    exact ⟨rfl, Below.refl _ _⟩
theorem encO_pubT {t : Tm} (ht : t.ok) (hk : t.kind = 3) : encO (pubT (some t)) = [UInt8.ofNat (240 + 4)] ++ t.enc := by
  have := encO_mkO (k := 4) (a := 0) (b := 0) (s := []) (l := [t]) (.inr (.inr (.inr (.inl ⟨rfl, rfl, rfl, rfl, rfl⟩))))
  unfold pubT
  rw [if_pos (show kindO (some t) = 3 from hk)]
  have h5 := key_enc ht hk
  rw [fitsL_id (by simp [hd, encs, h5])] at this
  simpa [hd, encs] using this
theorem rPub_any (o : Option Tm) (ho : okO o) (hl : (encO o).length ≤ 4000000000) (w : World) :
    Calls Tryz.prog 66 #[.string (bs (encO o))] w (TxR w (encO (pubT o))) := by
  have cK := Lib.hid (fun W => rKind_any o ho hl W)
  by_cases h : kindO o = 3
  · rw [h] at cK
    obtain ⟨t, rfl, hk⟩ : ∃ t, o = some t ∧ t.kind = 3 := by
      cases o with
      | none => cases h
      | some t => exact ⟨t, rfl, h⟩
    rw [encO_pubT (ho t rfl) hk]
    have c1 := fun W => rTag_any 4 W (by decide)
    have h5 := key_enc (ho t rfl) hk
    rw [show encO (some t) = t.enc from rfl] at cK ⊢
    have hcat : bs [UInt8.ofNat (240 + 4)] ++ bs t.enc = bs ([UInt8.ofNat (240 + 4)] ++ t.enc) := by rw [bs_add]
    have z1 := bs_size [UInt8.ofNat (240 + 4)]
    have z2 := bs_size t.enc
    rw [h5] at z2
    unfold TxR at c1 ⊢
    rw [← hcat]
    generalize bs [UInt8.ofNat (240 + 4)] = x1 at *
    generalize bs t.enc = x2 at *
    simp only [List.length_singleton] at z1
    have c1 := Lib.hid c1
    clear hcat h hl
    go_enter Tryz.func66, Tryz.ntmps66
    go_wp2_with (first
      | (go_at_call 40; (with_reducible refine (cK.out _).mono ?_); rintro r w1 ⟨rfl, rfl⟩)
      | (go_at_call 96; refine (c1.out _).mono ?_; rintro r w1 ⟨rfl, hb1⟩))
    go_ret
    exact ⟨rfl, hb1⟩
  · have e : pubT o = none := by unfold pubT; rw [if_neg h]
    rw [e]
    have hne : ((kindO o : Int) == 3) = false := by rw [beq_eq_false_iff_ne]; omega
    have hne2 : ¬ (kindO o : Int) = 3 := by omega
    generalize kindO o = k at *
    generalize bs (encO o) = x at *
    clear e h hl
    go_enter Tryz.func66, Tryz.ntmps66
    go_wp2_with (go_at_call 40; (with_reducible refine (cK.out _).mono ?_); rintro r w1 ⟨rfl, rfl⟩)
    go_ret
    exact ⟨rfl, Below.refl _ _⟩
end

section
open Go.RowKit

theorem resV2 {P : Program} {fn : Func} {p u : Tmp} {ty : TypeId} (h : fn.results = #[.cell p ty, .tmp u]) (tmps : Array Value) (w : World) (g : Nat) (t : TypeId) (cs : Array Value) (fr : Nat × Nat) (d : TypeDesc) (v : Value)
    (hp : tmps.getD p undef = .pointer (some ⟨g, 0, none⟩)) (hg : w.heap[g]? = some (.cells cs t fr))
    (hu : P.underlying ty = some d) (hd : (match d with | .struct _ | .array _ _ => true | _ => false) = true) (hi : (P.info? ty).map (·.size) = some cs.size) (hv : tmps.getD u undef = v) :
    (results fn tmps).run P w = .ok (.tuple #[.agg cs, v]) w := by
  rw [results_cell_tmp h, hp, hv]
  simp [asAddr, run_loadVar_row w g t ty cs fr d hg hu hd hi]
theorem hsetRow (w : World) (g : Nat) (old cs : Array Value) (t : TypeId) (fr : Nat × Nat) (h : w.heap[g]? = some (.cells old t fr)) : (w.setRow g cs).heap[g]? = some (.cells cs t fr) := by
  simp only [World.setRow, Array.getElem?_modify, if_true, h, Option.map_some]
end

section
open Go.RowKit Go.Maps

def zNd : List Value := [.int .i64 0, .int .i64 0, .int .i64 0, .string ⟨#[]⟩, .slice none 0 0]
theorem zNd_one : zNd.toArray.all (·.oneCell') = true := by simp [zNd, Value.oneCell']
theorem nd_all {k a b : Nat} {s : List UInt8} {A : Option Addr} {n c : Nat} : (ndC k a b s (.slice A n c)).toArray.all (·.oneCell') = true := by simp [ndC, Value.oneCell']
theorem hsetRow_off {w : World} {g k : Nat} (h : k ≠ g) (cs : Array Value) : (w.setRow g cs).heap[k]? = w.heap[k]? := by
  simp only [World.setRow, Array.getElem?_modify, if_neg (Ne.symm h)]
theorem view_none (A : Ar) (B : Nat) (w : World) (H : Arena w B A) (x : Int) (hg : get A.L x = none) :
    Calls Tryz.prog 23 #[.pointer (some ⟨A.g, 0, none⟩), .int .i64 x] w fun r w' => r = .returned (.tuple #[.agg zNd.toArray, .bool false]) ∧ Below w.heap.size w w' := by
  have hB1 := below_new w (.cells zNd.toArray 52)
  have cH := has_any A B x _ (H.keep hB1)
  rw [show hasB A x = false by unfold hasB; rw [hg]; rfl] at cH
  have cH := Lib.hid cH
  have hz1 := Lib.hid (heap_new w (.cells zNd.toArray 52))
  have hB1 := Lib.hid hB1
  clear H hg
  go_enter Tryz.func23, Tryz.ntmps23
  go_wp2_with (first
    | (go_at_call 43; refine cH.out.mono ?_; rintro r w1 ⟨rfl, rfl⟩)
    | (refine wpList_store_at 52 _ _ rfl rfl w.heap.size zNd.toArray rfl rfl 52 zNd.toArray hz1.out (by kernel_rfl) rfl zNd_one ?_))
  refine bodyPost_ret (resV2 rfl _ _ w.heap.size 52 zNd.toArray (0, 0) _ _ rfl (hsetRow _ _ _ _ _ _ hz1.out) Tryz.underlying52 rfl (by kernel_rfl) rfl) rfl ⟨rfl, below_setRow hB1.out (Nat.le_refl _) _⟩
theorem OwnR.monoB {w : World} {base base' k : Nat} {E : TypeId} {v : Value} {zs : List (List Value)} (h : OwnR w base k E v zs) (hB : base' ≤ base) : OwnR w base' k E v zs := by
  obtain ⟨⟨hl, hh⟩, hz⟩ := h
  refine ⟨⟨hl, ?_⟩, hz⟩
  rcases hh with h0 | ⟨g, cap, cur, hv, hg, r⟩
  · exact .inl h0
  · exact .inr ⟨g, cap, cur, hv, by omega, r⟩
set_option maxRecDepth 100000 in
set_option maxHeartbeats 2000000 in
theorem view_own (A : Ar) (B : Nat) (w : World) (H : Arena w B A) (x : Int) (t : Tm) (hg : get A.L x = some t) :
    Calls Tryz.prog 23 #[.pointer (some ⟨A.g, 0, none⟩), .int .i64 x] w fun r w' => ∃ (Av : Option Addr) (c : Nat) (xs : List Nat), r = .returned (.tuple #[.agg (ndC t.kind t.a t.b t.s (.slice Av t.args.length c)).toArray, .bool true]) ∧ OwnR w' w.heap.size 1 33 (.slice Av t.args.length c) (xs.map idv) ∧ xs.map (fun i => A.L[i]?) = t.args.map some ∧ Below w.heap.size w w' := by
  obtain ⟨j, rfl, hj⟩ := get_some hg
  obtain ⟨nd, hnd, rfl⟩ := Ar.N_at hj
  obtain ⟨Ai, ci, ev, hI, _⟩ := H.ids nd (List.mem_of_getElem? hnd)
  have hargs := Lib.hid (H.args nd (List.mem_of_getElem? hnd))
  have hxl : nd.xs.length = nd.t.args.length := by have := congrArg List.length hargs.out; simpa using this
  have hfew := H.few
  have ha8 : nd.t.args.length ≤ 1000000 := by
    have hok := H.good.ok nd.t (List.mem_of_getElem? (Ar.L_at hnd))
    generalize nd.t = t at hok
    obtain ⟨k, a, b, s, args⟩ := t
    rw [ok_mk] at hok
    have := hok.1
    unfold okHd at this
    simp only [Tm.args]
    omega
  have hB1 := below_new w (.cells zNd.toArray 52)
  have cH := has_any A B j _ (H.keep hB1)
  rw [show hasB A j = true by unfold hasB; rw [hg]; rfl] at cH
  have cH := Lib.hid cH
  have H1 := H.keep hB1
  obtain ⟨An, cn, As, cs, e1, e2, c0, c1, c2, h1, h2⟩ := H1.open_
  obtain ⟨b, off, cn', ev2, hb, hr, hjl⟩ := H1.node hnd
  rw [e1] at ev2
  injection ev2 with ev2 _ _
  subst ev2
  rw [hxl] at hI ev
  obtain ⟨k, a, b', s, v, hrow⟩ : ∃ (k a b' : Nat) (s : List UInt8) (v : Value), k = nd.t.kind ∧ a = nd.t.a ∧ b' = nd.t.b ∧ s = nd.t.s ∧ v = nd.v := ⟨_, _, _, _, _, rfl, rfl, rfl, rfl, rfl⟩
  have hrr : (w.alloc (.cells zNd.toArray 52)).rangeAt b (off + j * 5) (ndC k a b' s v) := by
    obtain ⟨rfl, rfl, rfl, rfl, rfl⟩ := hrow
    exact hr
  obtain ⟨e3, e4, e5, e6, e7⟩ := hrow
  rw [← e7] at ev
  rw [← e3, ← e4, ← e5, ← e6]
  generalize hn : nd.t.args.length = n at *
  clear c1 c2 h1 h2 e1 e2 e3 e4 e5 e6 e7 hr H H1 hg hj hn
  have hBz := hB1.trans (Below.mono (below_new (w.alloc (.cells zNd.toArray 52)) (.cells #[.int .i64 0, .int .i64 0, .int .i64 0, .string ⟨#[]⟩, .slice none 0 0] 52)) hB1.size)
  have hzz := heap_past (heap_new w (.cells zNd.toArray 52)) (.cells #[.int .i64 0, .int .i64 0, .int .i64 0, .string ⟨#[]⟩, .slice none 0 0] 52)
  have hnz := heap_new (w.alloc (.cells zNd.toArray 52)) (.cells #[.int .i64 0, .int .i64 0, .int .i64 0, .string ⟨#[]⟩, .slice none 0 0] 52)
  rw [show (w.alloc (.cells zNd.toArray 52)).heap.size = w.heap.size + 1 by simp] at hnz
  have hnz1 := Lib.hid hnz
  have hB2 := below_setRow hBz (Nat.le_succ _) (g := w.heap.size + 1) (ndC k a b' s v).toArray
  have hn2 := hsetRow _ _ _ (ndC k a b' s v).toArray _ _ hnz
  have hz2 := (hsetRow_off (w := (w.alloc (.cells zNd.toArray 52)).alloc (.cells #[.int .i64 0, .int .i64 0, .int .i64 0, .string ⟨#[]⟩, .slice none 0 0] 52)) (g := w.heap.size + 1) (k := w.heap.size) (by omega) (ndC k a b' s v).toArray).trans hzz
  have cC := Lib.hid (cloneI_any nd.xs Ai n ci _ hxl ha8 (hI.keep hB2))
  have hn2 := Lib.hid hn2
  have hz2 := Lib.hid hz2
  have hB2 := Lib.hid hB2
  have hrr1 := Lib.hid hrr
  clear hBz hzz hnz hB1 hI
  subst ev
  go_enter Tryz.func23, Tryz.ntmps23
  go_upto_region 4 with (first
    | (go_at_call 43; refine cH.out.mono ?_; rintro r w1 ⟨rfl, rfl⟩)
    | (refine wpList_load_at 52 _ rfl rfl b (off + j * 5) rfl (ndC k a b' s (.slice Ai n ci)) _ hrr1.out Tryz.underlying52 rfl (by kernel_rfl) ?_)
    | (refine wpList_store_at 52 _ _ rfl rfl (w.heap.size + 1) (ndC k a b' s (.slice Ai n ci)).toArray rfl rfl 52 zNd.toArray hnz1.out (by kernel_rfl) rfl nd_all ?_))
  generalize ((w.alloc (.cells zNd.toArray 52)).alloc (.cells #[.int .i64 0, .int .i64 0, .int .i64 0, .string ⟨#[]⟩, .slice none 0 0] 52)).setRow (w.heap.size + 1) (ndC k a b' s (.slice Ai n ci)).toArray = W2 at *
  clear c0 hb hjl hrr cH hnz1
  have hc4 : W2.cell? ⟨w.heap.size + 1, 4, none⟩ = some (.slice Ai n ci) := cell_of_row W2 (w.heap.size + 1) 4 _ _ _ hn2.out
  go_upto_region 5 with fail
  refine cC.out.mono ?_
  rintro r W3 ⟨v5, rfl, hO5, hb5⟩
  have hl2 := (Array.getElem?_eq_some_iff.1 hn2.out).1
  have hl1 := (Array.getElem?_eq_some_iff.1 hz2.out).1
  have hn3 := (hb5.block (w.heap.size + 1) hl2).trans hn2.out
  have hz3 := (hb5.block w.heap.size hl1).trans hz2.out
  have hB3 := hB2.out.trans (hb5.mono hB2.out.size)
  have hfz := frozen_of_row W3 (w.heap.size + 1) 4 _ _ hn3
  have hcc : W3.cell? ⟨w.heap.size + 1, 4, none⟩ = some (.slice Ai n ci) := cell_of_row W3 (w.heap.size + 1) 4 _ _ _ hn3
  obtain ⟨A5, c5, e5, _⟩ := hO5.rws
  rw [List.length_map, hxl] at e5
  subst e5
  have hB4 := Lib.hid (hB3.setCell (p := ⟨w.heap.size + 1, 4, none⟩) (Nat.le_succ _) (.slice A5 n c5))
  have hn4 : (W3.setCell ⟨w.heap.size + 1, 4, none⟩ (.slice A5 n c5)).heap[w.heap.size + 1]? = some (.cells (ndC k a b' s (.slice A5 n c5)).toArray 52 (0, 0)) := by
    rw [heap_setCell_same W3 (w.heap.size + 1) 4 _ _ _ hn3]; rfl
  have hz4 := Lib.hid ((heap_setCell_other W3 ⟨w.heap.size + 1, 4, none⟩ w.heap.size (.slice A5 n c5) (by simp)).trans hz3)
  have hr4 := Lib.hid (rangeAt_list hn4)
  have hO4 := Lib.hid (hO5.keepF (F := fun q => some (w.heap.size + 1) = some q) (Keeps.of_grown (grown_set W3 ⟨w.heap.size + 1, 4, none⟩ (.slice A5 n c5)) fun q hq => hq) (fun q hq hf => by have := hO5.1.lt q hq; have := Option.some.inj hf; omega))
  clear hn3 hz3 hB3 hO5 hn4 hc4 hb5
  go_upto_region 5 with fail
  generalize W3.setCell ⟨w.heap.size + 1, 4, none⟩ (.slice A5 n c5) = W4 at *
  have hO6 := Lib.hid (hO4.out.keepF (w' := W4.setRow w.heap.size (ndC k a b' s (.slice A5 n c5)).toArray) (F := fun q => q = w.heap.size) ⟨rfl, rfl, rfl, by simp [World.setRow], fun q _ hq => hsetRow_off hq _⟩ (fun q hq hf => by have := hO4.out.1.lt q hq; omega))
  go_wp2_with (first
    | (refine wpList_load_at 52 _ rfl rfl (w.heap.size + 1) 0 rfl (ndC k a b' s (.slice A5 n c5)) _ hr4.out Tryz.underlying52 rfl (by kernel_rfl) ?_)
    | (refine wpList_store_at 52 _ _ rfl rfl w.heap.size (ndC k a b' s (.slice A5 n c5)).toArray rfl rfl 52 zNd.toArray hz4.out (by kernel_rfl) rfl nd_all ?_))
  have hR7 := OwnR.monoB hO6.out hB2.out.size
  refine bodyPost_ret (resV2 rfl _ _ w.heap.size 52 (ndC k a b' s (.slice A5 n c5)).toArray (0, 0) _ _ rfl (hsetRow _ _ _ _ _ _ hz4.out) Tryz.underlying52 rfl (by kernel_rfl) rfl) rfl ⟨A5, c5, nd.xs, rfl, hR7, hargs.out, below_setRow hB4.out (Nat.le_refl _) _⟩
theorem view_some (A : Ar) (B : Nat) (w : World) (H : Arena w B A) (x : Int) (t : Tm) (hg : get A.L x = some t) :
    Calls Tryz.prog 23 #[.pointer (some ⟨A.g, 0, none⟩), .int .i64 x] w fun r w' => ∃ (Av : Option Addr) (c : Nat) (xs : List Nat), r = .returned (.tuple #[.agg (ndC t.kind t.a t.b t.s (.slice Av t.args.length c)).toArray, .bool true]) ∧ Rws w' 1 Av t.args.length (xs.map idv) ∧ xs.map (fun i => A.L[i]?) = t.args.map some ∧ Below w.heap.size w w' := by
  refine (view_own A B w H x t hg).mono ?_
  rintro r w' ⟨Av, c, xs, rfl, hO, hx, hb⟩
  obtain ⟨A7, c7, e7, hR7⟩ := hO.rws
  have hl : xs.length = t.args.length := by have := congrArg List.length hx; simpa using this
  rw [List.length_map, hl] at e7 hR7
  injection e7 with e7 _ e8
  subst e7
  exact ⟨Av, c, xs, rfl, hR7, hx, hb⟩
end

section
open Go.RowKit

theorem ofNat_ltu {x y : Nat} (hx : x < 256) (hy : y < 256) : (UInt8.ofNat x < UInt8.ofNat y) ↔ x < y := by
  rw [UInt8.lt_iff_toNat_lt]; simp [Nat.mod_eq_of_lt hx, Nat.mod_eq_of_lt hy]
theorem ofNat_bequ {x y : Nat} (hx : x < 256) (hy : y < 256) : (UInt8.ofNat x == UInt8.ofNat y) = (x == y) := by
  rw [Bool.eq_iff_iff]; simp only [beq_iff_eq]
  constructor
  · intro h
    have := congrArg UInt8.toNat h
    simpa [Nat.mod_eq_of_lt hx, Nat.mod_eq_of_lt hy] using this
  · rintro rfl; rfl
theorem u32_digits (x : Nat) (hx : x < 4294967296) : ∃ a b c d : Nat, a < 256 ∧ b < 256 ∧ c < 256 ∧ d < 256 ∧ x = 16777216 * a + 65536 * b + 256 * c + d ∧ u32 x = [UInt8.ofNat a, UInt8.ofNat b, UInt8.ofNat c, UInt8.ofNat d] :=
  ⟨x / 16777216 % 256, x / 65536 % 256, x / 256 % 256, x % 256, by omega, by omega, by omega, by omega, by omega, rfl⟩
theorem less_u32 {x y : Nat} (hx : x < 4294967296) (hy : y < 4294967296) (r r' : List UInt8) : Op.bytesLess (u32 x ++ r) (u32 y ++ r') = (decide (x < y) || (x == y && Op.bytesLess r r')) := by
  obtain ⟨a, b, c, d, h1, h2, h3, h4, e, eu⟩ := u32_digits x hx
  obtain ⟨a', b', c', d', k1, k2, k3, k4, e', eu'⟩ := u32_digits y hy
  rw [eu, eu']
  simp only [List.cons_append, List.nil_append, Op.bytesLess]
  rw [ofNat_bequ h1 k1, ofNat_bequ h2 k2, ofNat_bequ h3 k3, ofNat_bequ h4 k4]
  simp only [ofNat_ltu h1 k1, ofNat_ltu h2 k2, ofNat_ltu h3 k3, ofNat_ltu h4 k4]
  generalize Op.bytesLess r r' = z
  clear eu eu' hx hy
  rw [Bool.eq_iff_iff]
  simp only [Bool.or_eq_true, Bool.and_eq_true, decide_eq_true_eq, beq_iff_eq]
  cases z <;> simp <;> omega
theorem nonce_enc {t : Tm} (h : t.ok) (hk : t.kind = 2) : t.enc = UInt8.ofNat 242 :: (u32 t.a ++ (u32 t.b ++ [])) ∧ t.a < 4294967296 ∧ t.b < 4294967296 := by
  obtain ⟨k, a, b, s, args⟩ := t
  have hk : k = 2 := hk
  subst hk
  rw [ok_mk] at h
  have h1 := h.1
  unfold okHd at h1
  simp only [reduceCtorEq, false_and, or_false, false_or, true_and, Nat.reduceEqDiff] at h1
  obtain rfl := List.eq_nil_of_length_eq_zero h1.2.2.2
  rw [enc_mk]
  simp only [Tm.a, Tm.b]
  exact ⟨by simp [hd, encs], by omega, by omega⟩
/-- A nonce's text comes ahead of another one's, as they stand in a share. -/
theorem nonce_less {t u : Tm} (ht : t.ok) (hu : u.ok) (kt : t.kind = 2) (ku : u.kind = 2) : Op.bytesLess t.enc u.enc = decide (¬ nle u t) := by
  obtain ⟨e1, a1, a2⟩ := nonce_enc ht kt
  obtain ⟨e2, b1, b2⟩ := nonce_enc hu ku
  rw [e1, e2]
  simp only [Op.bytesLess]
  rw [less_u32 a1 b1, less_u32 a2 b2]
  rw [Bool.eq_iff_iff]
  simp only [Op.bytesLess, Bool.or_eq_true, Bool.and_eq_true, decide_eq_true_eq, beq_iff_eq, UInt8.lt_irrefl, false_or, true_and]
  unfold nle
  simp
  omega
theorem bs_toList (l : List UInt8) : (bs l).toList = l := by rw [ByteArray.toList_eq]; rfl
/-- A node's cells, as the reference has them. -/
def rnC (k a b : Int) (s : List UInt8) (v : Value) : List Value := [.int .i64 k, .int .i64 a, .int .i64 b, .string (bs s), v]
theorem rn_all {k a b : Int} {s : List UInt8} {A : Option Addr} {n c : Nat} : (rnC k a b s (.slice A n c)).toArray.all (·.oneCell') = true := by simp [rnC, Value.oneCell']
set_option maxRecDepth 100000 in
set_option maxHeartbeats 2000000 in
theorem rRight_any (k a b : Nat) (s : List UInt8) (args : List Tm) (hok : (Tm.mk k a b s args).ok) (A : Option Addr) (c : Nat) (w : World) (hA : Strs w A args.length (args.map fun u => bs u.enc)) (hsz : ∀ u ∈ args, u.enc.length ≤ 4000000000) :
    Calls Tryz.prog 109 #[.agg (rnC k a b s (.slice A args.length c)).toArray] w fun r w' => r = .returned (.bool true) ∧ Below w.heap.size w w' := by
  have hB := below_new w (.cells (rnC k a b s (.slice A args.length c)).toArray 91)
  have hn := heap_new w (.cells (rnC k a b s (.slice A args.length c)).toArray 91)
  have d0 := cell_of_row _ w.heap.size 0 _ _ _ hn
  have d1 := cell_of_row _ w.heap.size 1 _ _ _ hn
  have d2 := cell_of_row _ w.heap.size 2 _ _ _ hn
  have d3 := cell_of_row _ w.heap.size 3 _ _ _ hn
  have d4 := cell_of_row _ w.heap.size 4 _ _ _ hn
  have hA2 := Lib.hid (hA.keep hB)
  have hn1 := Lib.hid hn
  have hBh := Lib.hid hB
  clear hB
  have hokm := ok_mk.1 hok
  have hk1 := hokm.1
  have hka := hokm.2.1
  have hko := hokm.2.2
  unfold okHd at hk1
  have cK : ∀ u ∈ args, ∀ W, Calls Tryz.prog 40 #[.string (bs u.enc)] W fun r w' => r = .returned (.int .i64 u.kind) ∧ W = w' := fun u hu W => rKind_any (some u) (fun t ht => by obtain rfl := Option.some.inj ht; exact hko u hu) (hsz u hu) W
  clear hok hokm hsz
  unfold rnC at hn1 d0 d1 d2 d3 d4 hBh hA2 ⊢
  clear hn hA
  go_enter Tryz.func109, Tryz.ntmps109
  go_upto_region 1 with fail
  generalize (w.alloc (.cells [Value.int .i64 k, .int .i64 a, .int .i64 b, .string (bs s), .slice A args.length c].toArray 91)) = w1 at *
  rcases hk1 with hk1 | hk1 | hk1 | hk1 | hk1 | hk1 | hk1 | hk1 | hk1 | hk1
  · obtain ⟨rfl, -⟩ := hk1
    clear cK hko hka hA2 hn1
    go_wp2_with fail
    go_ret
    exact ⟨rfl, hBh.out⟩
  · obtain ⟨rfl, ha, hb, -⟩ := hk1
    have ca := fun W => rNumber_any a W
    have cb := fun W => rNumber_any b W
    rw [decide_eq_true (by unfold numOk; omega)] at ca cb
    have ca := Lib.hid ca
    have cb := Lib.hid cb
    clear cK hko hka hA2 hn1
    go_wp2_with (first
      | (go_at_call 98; (with_reducible refine (ca.out _).mono ?_); rintro r w1 ⟨rfl, rfl⟩)
      | (go_at_call 98; (with_reducible refine (cb.out _).mono ?_); rintro r w1 ⟨rfl, rfl⟩))
    go_ret
    exact ⟨rfl, hBh.out⟩
  · obtain ⟨rfl, ha, rfl, -⟩ := hk1
    have ca := fun W => rNumber_any a W
    have cb : ∀ W, Calls Tryz.prog 98 #[.int .i64 ((0 : Nat) : Int)] W fun r w' => r = .returned (.bool (decide (numOk ((0 : Nat) : Int)))) ∧ W = w' := fun W => rNumber_any ((0 : Nat) : Int) W
    rw [decide_eq_true (by unfold numOk; omega)] at ca cb
    have ca := Lib.hid ca
    have cb := Lib.hid cb
    clear cK hko hka hA2 hn1
    go_wp2_with (first
      | (go_at_call 98; (with_reducible refine (ca.out _).mono ?_); rintro r w1 ⟨rfl, rfl⟩)
      | (go_at_call 98; refine (cb.out _).mono ?_; rintro r w1 ⟨rfl, rfl⟩))
    go_ret
    exact ⟨rfl, hBh.out⟩
  · obtain ⟨rfl, rfl, rfl, rfl, hm⟩ := hk1
    obtain ⟨u, rfl⟩ := List.length_eq_one_iff.1 hm
    have hk3 := hka.1 rfl u (by simp)
    have cu := cK u (by simp)
    rw [hk3] at cu
    obtain ⟨bb, off, z, rfl, hlt, hz, hcell⟩ := hA2.out.at_ (j := 0) (by simp)
    have hz : bs u.enc = z := Option.some.inj hz
    subst hz
    rw [Nat.add_zero] at hcell
    simp only [List.length_cons, List.length_nil, Nat.zero_add, Nat.reduceAdd] at d4 ⊢
    have cu := Lib.hid cu
    clear cK hko hka hA2 hn1 hk3
    go_wp2_with (go_at_call 40; refine (cu.out _).mono ?_; rintro r w1 ⟨rfl, rfl⟩)
    go_ret
    exact ⟨rfl, hBh.out⟩
  · obtain ⟨rfl, rfl, rfl, hs1, hs2, hm⟩ := hk1
    obtain ⟨hk5, hsr⟩ := hka.2.1 rfl
    have cK2 := Lib.hid (fun u (hu : u ∈ args) W => (show Calls Tryz.prog 40 #[.string (bs u.enc)] W fun r w' => r = .returned (.int .i64 2) ∧ W = w' from by have := cK u hu W; rwa [hk5 u hu] at this))
    have hless : ∀ (j : Nat) u v, args[j + 1]? = some u → args[j]? = some v → Op.bytesLess (bs u.enc).toList (bs v.enc).toList = false := by
      intro j u v hu hv
      have mu := List.mem_of_getElem? hu
      have mv := List.mem_of_getElem? hv
      rw [bs_toList, bs_toList, nonce_less (hko u mu) (hko v mv) (hk5 u mu) (hk5 v mv)]
      have h1 := List.getElem?_eq_some_iff.1 hu
      have h2 := List.getElem?_eq_some_iff.1 hv
      have := (List.pairwise_iff_getElem.1 hsr) j (j + 1) h2.1 h1.1 (by omega)
      rw [h1.2, h2.2] at this
      simp [this]
    have hless := Lib.hid hless
    have cT : ∀ W, Calls Tryz.prog 99 #[.string (bs s), .int .i64 2100] W fun r w' => r = .returned (.bool (decide (txtOk s 2100))) ∧ W = w' := fun W => rText_any s 2100 W (by omega)
    rw [decide_eq_true (show txtOk s 2100 from ⟨hs1, hs2⟩)] at cT
    have cT := Lib.hid cT
    have hwl := (Array.getElem?_eq_some_iff.1 hn1.out).1
    have hn2 := Lib.hid (fun W (hb : Below w1.heap.size w1 W) => (hb.block w.heap.size hwl).trans hn1.out)
    have hA3 := Lib.hid (fun W (hb : Below w1.heap.size w1 W) => hA2.out.keep hb)
    generalize hna : args.length = n at *
    have hna := Lib.hid hna
    clear cK hko hka hA2 hk5 hsr hn1 d1 d2 d3
    go_wp2_with fail
    go_loopw [3] (fun i wr => ∃ j : Nat, j ≤ n ∧ i = .int .i64 j ∧ Hid (Below w1.heap.size w1 wr)) (fun i _ => n - (intOf i).toNat)
    case atStart => exact ⟨0, by omega, rfl, Lib.hid (Below.refl _ _)⟩
    case round =>
      clear d0 d4
      obtain ⟨j, hj, rfl, hBr⟩ := hrel
      have hrow := hn2.out wr hBr.out
      have d4 : wr.cell? ⟨w.heap.size, 4, none⟩ = some (.slice A n c) := cell_of_row wr _ 4 _ _ _ hrow
      have d3 : wr.cell? ⟨w.heap.size, 3, none⟩ = some (.string (bs s)) := cell_of_row wr _ 3 _ _ _ hrow
      clear hrow
      by_cases hlt : j < n
      · obtain ⟨bb, off, z, rfl, hltb, hz, hcell⟩ := (hA3.out wr hBr.out).at_ hlt
        rw [List.getElem?_map] at hz
        obtain ⟨u, hu⟩ : ∃ u, args[j]? = some u := ⟨args[j]'(by have := hna.out; omega), List.getElem?_eq_getElem (by have := hna.out; omega)⟩
        rw [hu] at hz
        have hz : bs u.enc = z := Option.some.inj hz
        subst hz
        have cu := Lib.hid (cK2.out u (List.mem_of_getElem? hu))
        have i1 : (0 : Int) ≤ (j : Int) := by omega
        have i2 : (j : Int) < (n : Int) := by omega
        by_cases h0 : j = 0
        · subst h0
          rw [Nat.add_zero] at hcell
          clear hu
          go_upto_region 11 with fail
          go_quiet ((go_at_call 40; exact Calls.quiet_of_same ((cu.out _).mono (fun e w' h => ⟨h.1, h.2.symm⟩))))
          have hBq := Lib.hid (hBr.out.trans ((drewN_below (w := wr) nq).mono hBr.out.size))
          generalize wr.drewN nq = w5 at hBq ⊢
          clear d3 d4 hcell
          go_wp2_with fail
          go_roundw
          case rel => exact ⟨1, by omega, by go_num, hBq⟩
          case measure => simp [intOf]; omega
        · obtain ⟨m, rfl⟩ : ∃ m, j = m + 1 := ⟨j - 1, by omega⟩
          obtain ⟨bb2, off2, z2, e2, hltb2, hz2, hcell2⟩ := (hA3.out wr hBr.out).at_ (j := m) (by omega)
          injection e2 with e2
          injection e2 with e3 e4 _
          subst e3 e4
          rw [List.getElem?_map] at hz2
          obtain ⟨v, hv⟩ : ∃ v, args[m]? = some v := ⟨args[m]'(by have := hna.out; omega), List.getElem?_eq_getElem (by have := hna.out; omega)⟩
          rw [hv] at hz2
          have hz2 : bs v.enc = z2 := Option.some.inj hz2
          subst hz2
          have hls := hless.out m u v hu hv
          obtain ⟨J, hJ⟩ : ∃ J, J = m + 1 := ⟨_, rfl⟩
          rw [← hJ] at hcell hlt hj i1 i2 ⊢
          have g1 : (J : Int) - 1 = (m : Int) := by omega
          have g2 : IntKind.i64.wrap (m : Int) = (m : Int) := by rw [IntKind.wrap_i64]; omega
          have g3 : (0 : Int) ≤ (m : Int) := by omega
          have g4 : (m : Int) < (n : Int) := by omega
          have g5 : decide ((0 : Int) < (J : Int)) = true := decide_eq_true (by omega)
          have g6 : decide (0 < J) = true := decide_eq_true (by omega)
          have hJh := Lib.hid hJ
          clear hu hv h0 hJ
          go_upto_region 11 with fail
          go_quiet ((go_at_call 40; exact Calls.quiet_of_same ((cu.out _).mono (fun e w' h => ⟨h.1, h.2.symm⟩))))
          have hBq := Lib.hid (hBr.out.trans ((drewN_below (w := wr) nq).mono hBr.out.size))
          generalize wr.drewN nq = w5 at hBq ⊢
          clear d3 d4 hcell hcell2 hls g1 g2 g5 g6
          go_wp2_with fail
          go_roundw
          case rel => exact ⟨J + 1, by omega, by go_num, hBq⟩
          case measure => simp [intOf]; omega
      · go_wp2_with (go_at_call 99; refine (cT.out _).mono ?_; rintro r w6 ⟨rfl, rfl⟩)
        go_ret
        exact ⟨rfl, hBh.out.trans (hBr.out.mono hBh.out.size)⟩
  · obtain ⟨rfl, rfl, rfl, hs1, hs2, hm⟩ := hk1
    obtain ⟨u, v, rfl⟩ : ∃ u v, args = [u, v] := by
      match args, hm with
      | [u, v], _ => exact ⟨u, v, rfl⟩
    have hk3 := hka.2.2 rfl u rfl
    have cu := cK u (by simp)
    rw [hk3] at cu
    have cT : ∀ W, Calls Tryz.prog 99 #[.string (bs s), .int .i64 64] W fun r w' => r = .returned (.bool (decide (txtOk s 64))) ∧ W = w' := fun W => rText_any s 64 W (by omega)
    rw [decide_eq_true (show txtOk s 64 from ⟨hs1, hs2⟩)] at cT
    obtain ⟨bb, off, z, rfl, hlt, hz, hcell⟩ := hA2.out.at_ (j := 0) (by simp)
    have hz : bs u.enc = z := Option.some.inj hz
    subst hz
    rw [Nat.add_zero] at hcell
    simp only [List.length_cons, List.length_nil, Nat.zero_add, Nat.reduceAdd] at d4 ⊢
    have cu := Lib.hid cu
    have cT := Lib.hid cT
    clear cK hko hka hA2 hn1 hk3
    go_wp2_with (first
      | (go_at_call 99; refine (cT.out _).mono ?_; rintro r w1 ⟨rfl, rfl⟩)
      | (go_at_call 40; refine (cu.out _).mono ?_; rintro r w1 ⟨rfl, rfl⟩))
    go_ret
    exact ⟨rfl, hBh.out⟩
  · obtain ⟨rfl, -⟩ := hk1
    clear cK hko hka hA2 hn1
    go_wp2_with fail
    go_ret
    exact ⟨rfl, hBh.out⟩
  · obtain ⟨rfl, -⟩ := hk1
    clear cK hko hka hA2 hn1
    go_wp2_with fail
    go_ret
    exact ⟨rfl, hBh.out⟩
  · obtain ⟨rfl, -⟩ := hk1
    clear cK hko hka hA2 hn1
    go_wp2_with fail
    go_ret
    exact ⟨rfl, hBh.out⟩
  · obtain ⟨rfl, -⟩ := hk1
    clear cK hko hka hA2 hn1
    go_wp2_with fail
    go_ret
    exact ⟨rfl, hBh.out⟩
end

section
open Go

theorem inv_start {n : Nat} {P : Nat → Prop} (h : ∀ k, P (k + n)) : ∀ q, (Array.replicate n false).getD q true = true → P q := by
  intro q hq
  have hq : n ≤ q := by
    rcases Nat.lt_or_ge q n with h1 | h1
    · simp [Array.getD_eq_getD_getElem?, h1] at hq
    · exact h1
  obtain ⟨k, rfl⟩ : ∃ k, q = k + n := ⟨q - n, by omega⟩
  exact h k
theorem inv_none {n i : Nat} (h : i < n) : (Array.replicate n false).getD i true = false := by simp [Array.getD_eq_getD_getElem?, h]
theorem inv_not {n i : Nat} (h : i < n) : ¬ ((Array.replicate n false).getD i true = true) := by rw [inv_none h]; decide
theorem inv_step {P : Nat → Value → Prop} {L : Nat → Bool} {xs : List Value} {i : Nat} {x' : Value} (h : ∀ q, L q = true → P q (xs.getD q undef)) (hn : P i x') (hi : i < xs.length) :
    ∀ q, (q == i || L q) = true → P q ((xs.set i x').getD q undef) := by
  intro q hq
  by_cases e : q = i
  · subst e
    rw [List.getD_eq_getElem?_getD, List.getElem?_set_self hi]
    exact hn
  · have hL : L q = true := by simpa [e] using hq
    rw [List.getD_eq_getElem?_getD, List.getElem?_set_ne (Ne.symm e), ← List.getD_eq_getElem?_getD]
    exact h q hL
theorem inv_pass {P : Nat → Value → Prop} {L : Nat → Bool} {xs : List Value} {i : Nat} (h : ∀ q, L q = true → P q (xs.getD q undef)) (hn : ∀ x, P i x) : ∀ q, (q == i || L q) = true → P q (xs.getD q undef) := by
  intro q hq
  by_cases e : q = i
  · subst e; exact hn _
  · exact h q (by simpa [e] using hq)
end
end Go.Proofs.YtphnakdgpilcmaaGreatDoor
