/- Arenas: the walks of Data, Nonce, Key, Pub, Base, Hash, List, Size, Kind. -/
import Derived.Test.YtbeanjaenmpoeaaDoorTmP
namespace Go.Proofs.YtbeanjaenmpoeaaDoor
open Go.RowKit Go.Maps

theorem PutR.of_below {w w1 w' : World} {B : Nat} {A : Ar} {o : Option Tm} {r : Ending} (hb : Below w.heap.size w w1) (h : PutR w1 B A o r w') : PutR w B A o r w' := by
  obtain ⟨A', x, e, ⟨h1, h2, h3, h4⟩, h5⟩ := h
  exact ⟨A', x, e, ⟨h1, h2, h3, (Keeps.of_below hb).trans h4⟩, h5⟩
theorem iv_flat : ∀ ys : List Int, (ys.map (Value.int .i64)) = (ys.map iv).flatten
  | [] => rfl
  | y :: r => by rw [List.map_cons, List.map_cons, List.flatten_cons, iv_flat r]; rfl
theorem ints_new (w : World) (ys : List Int) (t : TypeId) : Ints (w.alloc (.cells (ys.map (Value.int .i64)).toArray t)) (some ⟨w.heap.size, 0, none⟩) ys.length ys := by
  have h := heap_new w (.cells (ys.map (Value.int .i64)).toArray t)
  have e : (ys.map (Value.int .i64)) = (ys.map iv).flatten := iv_flat ys
  rw [e] at h
  have := Rws.block (k := 1) (zs := ys.map iv) (by simp [iv]) h (by simp)
  rw [List.length_map] at this
  rw [e]
  exact this

theorem number_any (n : Int) (w : World) :
    Calls Tryd.prog 52 #[.int .i64 n] w fun r w' => r = .returned (.bool (decide (numOk n))) ∧ w = w' := by
  by_cases h0 : 0 ≤ n
  · go_enter Tryd.func52, Tryd.ntmps52
    go_wp2
    go_ret
    exact ⟨ret_bool (by unfold numOk; simp [h0]), rfl⟩
  · have hn : ¬ numOk n := fun h => h0 h.1
    rw [decide_eq_false hn]
    go_enter Tryd.func52, Tryd.ntmps52
    go_wp2
    go_ret
    exact ⟨rfl, rfl⟩
theorem text_any (s : List UInt8) (m : Nat) (w : World) (hs : s.length ≤ 4000000000) :
    Calls Tryd.prog 47 #[.string (bs s), .int .i64 m] w fun r w' => r = .returned (.bool (decide (txtOk s m))) ∧ w = w' := by
  have hz := bs_size s
  by_cases h0 : 1 ≤ s.length
  · have h1 : 1 ≤ (bs s).size := by omega
    have h2 : (bs s).size ≤ 4000000000 := by omega
    go_enter Tryd.func47, Tryd.ntmps47
    go_wp2
    go_ret
    exact ⟨ret_bool (by unfold txtOk; simp [h0, hz]), rfl⟩
  · have hn : ¬ txtOk s m := fun h => h0 h.1
    have h1 : (bs s).size = 0 := by omega
    rw [decide_eq_false hn]
    clear h0 hn hz
    go_enter Tryd.func47, Tryd.ntmps47
    go_wp2
    go_ret
    exact ⟨rfl, rfl⟩

section
variable (A : Ar) (B : Nat) (w : World) (H : Arena w B A) (hB : B ≤ w.heap.size) (hN : A.N.length < 100)
include H hB hN
theorem data_any (s : List UInt8) (hs : s.length ≤ 4000000000) :
    Calls Tryd.prog 13 #[.pointer (some ⟨A.g, 0, none⟩), .string (bs s)] w (PutR w B A (dataT s)) := by
  have cP : Calls Tryd.prog 45 #[.pointer (some ⟨A.g, 0, none⟩), .agg #[.int .i64 1, .int .i64 0, .int .i64 0, .string (bs s), .slice none 0 0]] w (PutR w B A (dataT s)) := put_any A B 1 0 0 s [] none 0 0 w H hB hN hs (by omega) Rws.nil_ (dataT_ok s)
  have cP := Lib.hid cP
  clear H
  go_enter Tryd.func13, Tryd.ntmps13
  go_wp2_with (go_at_call 45; refine cP.out.mono ?_; rintro r w1 ⟨A', x, rfl, hG, hM⟩)
  go_ret
  exact ⟨A', x, rfl, hG, hM⟩
theorem nonce_any (p q : Int) :
    Calls Tryd.prog 18 #[.pointer (some ⟨A.g, 0, none⟩), .int .i64 p, .int .i64 q] w (PutR w B A (nonceT p q)) := by
  have cp := Lib.hid (number_any p w)
  have cq := Lib.hid (number_any q w)
  by_cases h : numOk p ∧ numOk q
  · have e : nonceT p q = mkO 2 p.toNat q.toNat [] [] := by unfold nonceT; rw [if_pos h]
    have hok := nonceT_ok p q
    rw [e] at hok ⊢
    obtain ⟨i, rfl⟩ := Int.eq_ofNat_of_zero_le h.1.1
    obtain ⟨j, rfl⟩ := Int.eq_ofNat_of_zero_le h.2.1
    rw [Int.toNat_natCast, Int.toNat_natCast] at hok ⊢
    have cP : Calls Tryd.prog 45 #[.pointer (some ⟨A.g, 0, none⟩), .agg #[.int .i64 2, .int .i64 i, .int .i64 j, .string ⟨#[]⟩, .slice none 0 0]] w (PutR w B A (mkO 2 i j [] [])) := put_any A B 2 i j [] [] none 0 0 w H hB hN (by simp) (by omega) Rws.nil_ hok
    rw [decide_eq_true h.1] at cp
    rw [decide_eq_true h.2] at cq
    have cP := Lib.hid cP
    clear H hok e h
    go_enter Tryd.func18, Tryd.ntmps18
    go_wp2_with (first
      | (go_at_call 52; (with_reducible refine cp.out.mono ?_); rintro r w1 ⟨rfl, rfl⟩)
      | (go_at_call 52; (with_reducible refine cq.out.mono ?_); rintro r w1 ⟨rfl, rfl⟩)
      | (go_at_call 45; refine cP.out.mono ?_; rintro r w1 ⟨A', x, rfl, hG, hM⟩))
    go_ret
    exact ⟨A', x, rfl, hG, hM⟩
  · have e : nonceT p q = none := by unfold nonceT; rw [if_neg h]
    have hR := Lib.hid (PutR.none_ H (Below.refl _ _) e)
    by_cases h1 : numOk p
    · have h2 : ¬ numOk q := fun h2 => h ⟨h1, h2⟩
      rw [decide_eq_true h1] at cp
      rw [decide_eq_false h2] at cq
      clear H e h h1 h2
      go_enter Tryd.func18, Tryd.ntmps18
      go_wp2_with (first
        | (go_at_call 52; (with_reducible refine cp.out.mono ?_); rintro r w1 ⟨rfl, rfl⟩)
        | (go_at_call 52; (with_reducible refine cq.out.mono ?_); rintro r w1 ⟨rfl, rfl⟩))
      go_ret
      exact hR.out
    · rw [decide_eq_false h1] at cp
      clear H e h h1 cq
      go_enter Tryd.func18, Tryd.ntmps18
      go_wp2_with (first
        | (go_at_call 52; (with_reducible refine cp.out.mono ?_); rintro r w1 ⟨rfl, rfl⟩))
      go_ret
      exact hR.out
theorem key_any (p : Int) :
    Calls Tryd.prog 26 #[.pointer (some ⟨A.g, 0, none⟩), .int .i64 p] w (PutR w B A (keyT p)) := by
  have cp := Lib.hid (number_any p w)
  by_cases h : numOk p
  · have e : keyT p = mkO 3 p.toNat 0 [] [] := by unfold keyT; rw [if_pos h]
    have hok := keyT_ok p
    rw [e] at hok ⊢
    obtain ⟨i, rfl⟩ := Int.eq_ofNat_of_zero_le h.1
    rw [Int.toNat_natCast] at hok ⊢
    have cP : Calls Tryd.prog 45 #[.pointer (some ⟨A.g, 0, none⟩), .agg #[.int .i64 3, .int .i64 i, .int .i64 0, .string ⟨#[]⟩, .slice none 0 0]] w (PutR w B A (mkO 3 i 0 [] [])) := put_any A B 3 i 0 [] [] none 0 0 w H hB hN (by simp) (by omega) Rws.nil_ hok
    rw [decide_eq_true h] at cp
    have cP := Lib.hid cP
    clear H hok e h
    go_enter Tryd.func26, Tryd.ntmps26
    go_wp2_with (first
      | (go_at_call 52; (with_reducible refine cp.out.mono ?_); rintro r w1 ⟨rfl, rfl⟩)
      | (go_at_call 45; refine cP.out.mono ?_; rintro r w1 ⟨A', x, rfl, hG, hM⟩))
    go_ret
    exact ⟨A', x, rfl, hG, hM⟩
  · have e : keyT p = none := by unfold keyT; rw [if_neg h]
    have hR := Lib.hid (PutR.none_ H (Below.refl _ _) e)
    rw [decide_eq_false h] at cp
    clear H e h
    go_enter Tryd.func26, Tryd.ntmps26
    go_wp2_with (go_at_call 52; (with_reducible refine cp.out.mono ?_); rintro r w1 ⟨rfl, rfl⟩)
    go_ret
    exact hR.out
theorem base_any (s : List UInt8) (hs : s.length ≤ 4000000000) :
    Calls Tryd.prog 16 #[.pointer (some ⟨A.g, 0, none⟩), .string (bs s)] w (PutR w B A (baseT s)) := by
  have cp : Calls Tryd.prog 47 #[.string (bs s), .int .i64 2100] w fun r w' => r = .returned (.bool (decide (txtOk s 2100))) ∧ w = w' := text_any s 2100 w hs
  have cp := Lib.hid cp
  by_cases h : txtOk s 2100
  · have e : baseT s = mkO 5 0 0 s [] := by unfold baseT; rw [if_pos h]
    have hok := baseT_ok s
    rw [e] at hok ⊢
    have cP : Calls Tryd.prog 45 #[.pointer (some ⟨A.g, 0, none⟩), .agg #[.int .i64 5, .int .i64 0, .int .i64 0, .string (bs s), .slice none 0 0]] w (PutR w B A (mkO 5 0 0 s [])) := put_any A B 5 0 0 s [] none 0 0 w H hB hN hs (by omega) Rws.nil_ hok
    rw [decide_eq_true h] at cp
    have cP := Lib.hid cP
    clear H hok e h
    go_enter Tryd.func16, Tryd.ntmps16
    go_wp2_with (first
      | (go_at_call 47; refine cp.out.mono ?_; rintro r w1 ⟨rfl, rfl⟩)
      | (go_at_call 45; refine cP.out.mono ?_; rintro r w1 ⟨A', x, rfl, hG, hM⟩))
    go_ret
    exact ⟨A', x, rfl, hG, hM⟩
  · have e : baseT s = none := by unfold baseT; rw [if_neg h]
    have hR := Lib.hid (PutR.none_ H (Below.refl _ _) e)
    rw [decide_eq_false h] at cp
    clear H e h
    go_enter Tryd.func16, Tryd.ntmps16
    go_wp2_with (go_at_call 47; refine cp.out.mono ?_; rintro r w1 ⟨rfl, rfl⟩)
    go_ret
    exact hR.out
theorem pub_any (x : Int) :
    Calls Tryd.prog 37 #[.pointer (some ⟨A.g, 0, none⟩), .int .i64 x] w (PutR w B A (pubT (get A.L x))) := by
  have cI : Calls Tryd.prog 48 #[.pointer (some ⟨A.g, 0, none⟩), .int .i64 x, .int .i64 3] w fun r w' => r = .returned (.bool (isB A x 3)) ∧ w = w' := is_any A B x 3 w H
  rw [isB_eq (by decide)] at cI
  by_cases h : kindO (get A.L x) = 3
  · have e : pubT (get A.L x) = mkO 4 0 0 [] [get A.L x] := by unfold pubT; rw [if_pos h]
    have hok := pubT_ok (H.good.okO x)
    rw [e] at hok ⊢
    have hb := below_new w (.cells #[.int .i64 x] 26)
    have cP : Calls Tryd.prog 45 #[.pointer (some ⟨A.g, 0, none⟩), .agg #[.int .i64 4, .int .i64 0, .int .i64 0, .string ⟨#[]⟩, .slice (some ⟨w.heap.size, 0, none⟩) 1 1]] (w.alloc (.cells #[.int .i64 x] 26)) (PutR (w.alloc (.cells #[.int .i64 x] 26)) B A (mkO 4 0 0 [] [get A.L x])) := put_any A B 4 0 0 [] [x] (some ⟨w.heap.size, 0, none⟩) 1 1 _ (H.keep hb) (Nat.le_trans hB hb.size) hN (by simp) (by omega) (ints_new w [x] _) hok
    rw [show (kindO (get A.L x) == 3) = true by simp [h]] at cI
    have cP := Lib.hid cP
    have cI := Lib.hid cI
    have hb := Lib.hid hb
    clear H hok e h
    go_enter Tryd.func37, Tryd.ntmps37
    go_wp2_with (first
      | (go_at_call 48; refine cI.out.mono ?_; rintro r w1 ⟨rfl, rfl⟩)
      | (go_at_call 45; refine cP.out.mono ?_; rintro r w1 h1; obtain ⟨A', x', rfl, hG, hM⟩ := PutR.of_below hb.out h1))
    go_ret
    exact ⟨A', x', rfl, hG, hM⟩
  · have e : pubT (get A.L x) = none := by unfold pubT; rw [if_neg h]
    have hR := Lib.hid (PutR.none_ H (Below.refl _ _) e)
    rw [show (kindO (get A.L x) == 3) = false by simp [h]] at cI
    have cI := Lib.hid cI
    clear H e h
    go_enter Tryd.func37, Tryd.ntmps37
    go_wp2_with (go_at_call 48; refine cI.out.mono ?_; rintro r w1 ⟨rfl, rfl⟩)
    go_ret
    exact hR.out
theorem hash_any (x : Int) :
    Calls Tryd.prog 27 #[.pointer (some ⟨A.g, 0, none⟩), .int .i64 x] w (PutR w B A (hashT (get A.L x))) := by
  have hok := hashT_ok (H.good.okO x)
  unfold hashT at hok ⊢
  have hb := below_new w (.cells #[.int .i64 x] 26)
  have cP : Calls Tryd.prog 45 #[.pointer (some ⟨A.g, 0, none⟩), .agg #[.int .i64 7, .int .i64 0, .int .i64 0, .string ⟨#[]⟩, .slice (some ⟨w.heap.size, 0, none⟩) 1 1]] (w.alloc (.cells #[.int .i64 x] 26)) (PutR (w.alloc (.cells #[.int .i64 x] 26)) B A (mkO 7 0 0 [] [get A.L x])) := put_any A B 7 0 0 [] [x] (some ⟨w.heap.size, 0, none⟩) 1 1 _ (H.keep hb) (Nat.le_trans hB hb.size) hN (by simp) (by omega) (ints_new w [x] _) hok
  have cP := Lib.hid cP
  have hb := Lib.hid hb
  clear H hok
  go_enter Tryd.func27, Tryd.ntmps27
  go_wp2_with (go_at_call 45; refine cP.out.mono ?_; rintro r w1 h1; obtain ⟨A', x', rfl, hG, hM⟩ := PutR.of_below hb.out h1)
  go_ret
  exact ⟨A', x', rfl, hG, hM⟩
theorem list_any (ys : List Int) (Aa : Option Addr) (m c : Nat) (hm : m ≤ 1000) (hY : Ints w Aa m ys) :
    Calls Tryd.prog 15 #[.pointer (some ⟨A.g, 0, none⟩), .slice Aa m c] w (PutR w B A (listT (ys.map (get A.L)))) := by
  have hyl := hY.len
  by_cases h : m ≤ 32
  · have e : listT (ys.map (get A.L)) = mkO 10 0 0 [] (ys.map (get A.L)) := by unfold listT; rw [if_pos (by rw [List.length_map]; omega)]
    have hok : okO (listT (ys.map (get A.L))) := listT_ok (fun o ho => by
      obtain ⟨y, _, rfl⟩ := List.mem_map.1 ho
      exact H.good.okO y)
    rw [e] at hok ⊢
    have cP : Calls Tryd.prog 45 #[.pointer (some ⟨A.g, 0, none⟩), .agg #[.int .i64 10, .int .i64 0, .int .i64 0, .string ⟨#[]⟩, .slice Aa m c]] w (PutR w B A (mkO 10 0 0 [] (ys.map (get A.L)))) := put_any A B 10 0 0 [] ys Aa m c w H hB hN (by simp) (by omega) hY hok
    have cP := Lib.hid cP
    have h' : ¬ 32 < m := by omega
    clear H hok e hY
    go_enter Tryd.func15, Tryd.ntmps15
    go_wp2_with (go_at_call 45; refine cP.out.mono ?_; rintro r w1 ⟨A', x, rfl, hG, hM⟩)
    go_ret
    exact ⟨A', x, rfl, hG, hM⟩
  · have e : listT (ys.map (get A.L)) = none := by unfold listT; rw [if_neg (by rw [List.length_map]; omega)]
    have hR := Lib.hid (PutR.none_ H (Below.refl _ _) e)
    have h' : 32 < m := by omega
    clear H e h hY
    go_enter Tryd.func15, Tryd.ntmps15
    go_wp2_with fail
    go_ret
    exact hR.out
end
def sizeO (o : Option Tm) : Nat := match o with | some t => t.len | none => 0
theorem size_any (A : Ar) (B : Nat) (w : World) (H : Arena w B A) (x : Int) :
    Calls Tryd.prog 14 #[.pointer (some ⟨A.g, 0, none⟩), .int .i64 x] w fun r w' => r = .returned (.int .i64 (sizeO (get A.L x))) ∧ w = w' := by
  have cH := has_any A B x w H
  cases hg : get A.L x with
  | none =>
    rw [show hasB A x = false by unfold hasB; rw [hg]; rfl] at cH
    have cH := Lib.hid cH
    clear H hg
    go_enter Tryd.func14, Tryd.ntmps14
    go_wp2_with (go_at_call 46; refine cH.out.mono ?_; rintro r w1 ⟨rfl, rfl⟩)
    go_ret
    exact ⟨rfl, rfl⟩
  | some t =>
    rw [show hasB A x = true by unfold hasB; rw [hg]; rfl] at cH
    have cH := Lib.hid cH
    obtain ⟨j, rfl, hj⟩ := get_some hg
    obtain ⟨nd, hnd, rfl⟩ := Ar.N_at hj
    obtain ⟨An, cn, As, cs, e1, e2, c0, c1, c2, h1, h2⟩ := H.open_
    have hjl : j < A.N.length := (List.getElem?_eq_some_iff.1 hnd).1
    obtain ⟨b, off, z, rfl, hb, hz, hc⟩ := h2.at_ hjl
    rw [List.getElem?_map, hnd] at hz
    simp only [Option.map_some, Option.some.injEq] at hz
    subst hz
    clear H hg hj hnd h1 h2 e1 e2
    go_enter Tryd.func14, Tryd.ntmps14
    go_wp2_with (go_at_call 46; refine cH.out.mono ?_; rintro r w1 ⟨rfl, rfl⟩)
    go_ret
    exact ⟨rfl, rfl⟩
def kindT (o : Option Tm) : Nat := kindO o
theorem kind_any (A : Ar) (B : Nat) (w : World) (H : Arena w B A) (x : Int) :
    Calls Tryd.prog 29 #[.pointer (some ⟨A.g, 0, none⟩), .int .i64 x] w fun r w' => r = .returned (.int .i64 (kindO (get A.L x))) ∧ w = w' := by
  have cH := has_any A B x w H
  cases hg : get A.L x with
  | none =>
    rw [show hasB A x = false by unfold hasB; rw [hg]; rfl] at cH
    have cH := Lib.hid cH
    clear H hg
    go_enter Tryd.func29, Tryd.ntmps29
    go_wp2_with (go_at_call 46; refine cH.out.mono ?_; rintro r w1 ⟨rfl, rfl⟩)
    go_ret
    exact ⟨rfl, rfl⟩
  | some t =>
    rw [show hasB A x = true by unfold hasB; rw [hg]; rfl] at cH
    have cH := Lib.hid cH
    obtain ⟨j, rfl, hj⟩ := get_some hg
    obtain ⟨nd, hnd, rfl⟩ := Ar.N_at hj
    obtain ⟨An, cn, As, cs, e1, e2, c0, c1, c2, h1, h2⟩ := H.open_
    obtain ⟨b, off, cn', ev, hb, hr, hjl⟩ := H.node hnd
    obtain ⟨f0, f1, f2, f3, f4⟩ := Nd.flds hr
    rw [e1] at ev
    injection ev with ev _ _
    subst ev
    clear H hg hj hnd h1 h2 e1 e2 f1 f2 f3 f4 hr
    go_enter Tryd.func29, Tryd.ntmps29
    go_wp2_with (go_at_call 46; refine cH.out.mono ?_; rintro r w1 ⟨rfl, rfl⟩)
    go_ret
    exact ⟨rfl, rfl⟩
end Go.Proofs.YtbeanjaenmpoeaaDoor
