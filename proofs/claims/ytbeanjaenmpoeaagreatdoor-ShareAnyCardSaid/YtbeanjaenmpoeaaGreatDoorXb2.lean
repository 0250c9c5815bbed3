/- Texts joined: what each shows stands ahead of its theorems. -/
import Derived.Test.YtbeanjaenmpoeaaGreatDoorXb1
import Derived.Test.YtbeanjaenmpoeaaGreatDoorXb0
import Derived.Laws.CopyRow
import Derived.Laws.CopyOwn
import Derived.WalkMore
namespace Go.Proofs.YtbeanjaenmpoeaaGreatDoor
section
open Go.RowKit Go.Maps

theorem PutR.of_below {w w1 w' : World} {B : Nat} {A : Ar} {o : Option Tm} {r : Ending} (hb : Below w.heap.size w w1) (h : PutR w1 B A o r w') : PutR w B A o r w' := by
  obtain ⟨A', x, e, ⟨h1, h2, h3, h4, h6⟩, h5⟩ := h
  exact ⟨A', x, e, ⟨h1, h2, h3, (Keeps.of_below hb).trans h4, fun y hy => (h6 y hy).imp id fun hq q e => Nat.le_trans hb.size (hq q e)⟩, h5⟩
theorem iv_flat : ∀ ys : List Int, (ys.map (Value.int .i64)) = (ys.map iv).flatten
  | [] => rfl
  | y :: r => by rw [List.map_cons, List.map_cons, List.flatten_cons, iv_flat r]; rfl
theorem ints_new (w : World) (ys : List Int) (t : TypeId) : Ints (w.alloc (.cells (ys.map (Value.int .i64)).toArray t)) (some ⟨w.heap.size, 0, none⟩) ys.length ys := by
  have h := heap_new w (.cells (ys.map (Value.int .i64)).toArray t)
  have e : (ys.map (Value.int .i64)) = (ys.map iv).flatten := iv_flat ys
  rw [e] at h
  have := Rws.block (k := 1) (zs := ys.map iv) (by simp [iv]) h (by simp)
  rw [List.length_map] at this
  rw [e]
  exact this

theorem number_any (n : Int) (w : World) :
    Calls Tryz.prog 56 #[.int .i64 n] w fun r w' => r = .returned (.bool (decide (numOk n))) ∧ w = w' := by
  by_cases h0 : 0 ≤ n
  · go_enter Tryz.func56, Tryz.ntmps56
    go_wp2
    go_ret
    exact ⟨ret_bool (by unfold numOk; simp [h0]), rfl⟩
  · have hn : ¬ numOk n := fun h => h0 h.1
    rw [decide_eq_false hn]
    go_enter Tryz.func56, Tryz.ntmps56
    go_wp2
    go_ret
    exact ⟨rfl, rfl⟩
theorem text_any (s : List UInt8) (m : Nat) (w : World) (hs : s.length ≤ 4000000000) :
    Calls Tryz.prog 81 #[.string (bs s), .int .i64 m] w fun r w' => r = .returned (.bool (decide (txtOk s m))) ∧ w = w' := by
  have hz := bs_size s
  by_cases h0 : 1 ≤ s.length
  · have h1 : 1 ≤ (bs s).size := by omega
    have h2 : (bs s).size ≤ 4000000000 := by omega
    go_enter Tryz.func81, Tryz.ntmps81
    go_wp2
    go_ret
    exact ⟨ret_bool (by unfold txtOk; simp [h0, hz]), rfl⟩
  · have hn : ¬ txtOk s m := fun h => h0 h.1
    have h1 : (bs s).size = 0 := by omega
    rw [decide_eq_false hn]
    clear h0 hn hz
    go_enter Tryz.func81, Tryz.ntmps81
    go_wp2
    go_ret
    exact ⟨rfl, rfl⟩

section
variable (A : Ar) (B : Nat) (w : World) (H : Arena w B A) (hB : B ≤ w.heap.size) (hN : A.N.length < 100)
include H hB hN
theorem data_any (s : List UInt8) (hs : s.length ≤ 4000000000) :
    Calls Tryz.prog 53 #[.pointer (some ⟨A.g, 0, none⟩), .string (bs s)] w (PutR w B A (dataT s)) := by
  have cP : Calls Tryz.prog 57 #[.pointer (some ⟨A.g, 0, none⟩), .agg #[.int .i64 1, .int .i64 0, .int .i64 0, .string (bs s), .slice none 0 0]] w (PutR w B A (dataT s)) := put_any A B 1 0 0 s [] none 0 0 w H hB hN hs (by omega) Rws.nil_ (dataT_ok s)
  have cP := Lib.hid cP
  clear H
  go_enter Tryz.func53, Tryz.ntmps53
  go_wp2_with (go_at_call 57; refine cP.out.mono ?_; rintro r w1 ⟨A', x, rfl, hG, hM⟩)
  go_ret
  exact ⟨A', x, rfl, hG, hM⟩
theorem nonce_any (p q : Int) :
    Calls Tryz.prog 50 #[.pointer (some ⟨A.g, 0, none⟩), .int .i64 p, .int .i64 q] w (PutR w B A (nonceT p q)) := by
  have cp := Lib.hid (number_any p w)
  have cq := Lib.hid (number_any q w)
  by_cases h : numOk p ∧ numOk q
  · have e : nonceT p q = mkO 2 p.toNat q.toNat [] [] := by unfold nonceT; rw [if_pos h]
    have hok := nonceT_ok p q
    rw [e] at hok ⊢
    obtain ⟨i, rfl⟩ := Int.eq_ofNat_of_zero_le h.1.1
    obtain ⟨j, rfl⟩ := Int.eq_ofNat_of_zero_le h.2.1
    rw [Int.toNat_natCast, Int.toNat_natCast] at hok ⊢
    have cP : Calls Tryz.prog 57 #[.pointer (some ⟨A.g, 0, none⟩), .agg #[.int .i64 2, .int .i64 i, .int .i64 j, .string ⟨#[]⟩, .slice none 0 0]] w (PutR w B A (mkO 2 i j [] [])) := put_any A B 2 i j [] [] none 0 0 w H hB hN (by simp) (by omega) Rws.nil_ hok
    rw [decide_eq_true h.1] at cp
    rw [decide_eq_true h.2] at cq
    have cP := Lib.hid cP
    clear H hok e h
    go_enter Tryz.func50, Tryz.ntmps50
    go_wp2_with (first
      | (go_at_call 56; (with_reducible refine cp.out.mono ?_); rintro r w1 ⟨rfl, rfl⟩)
      | (go_at_call 56; (with_reducible refine cq.out.mono ?_); rintro r w1 ⟨rfl, rfl⟩)
      | (go_at_call 57; refine cP.out.mono ?_; rintro r w1 ⟨A', x, rfl, hG, hM⟩))
    go_ret
    exact ⟨A', x, rfl, hG, hM⟩
  · have e : nonceT p q = none := by unfold nonceT; rw [if_neg h]
    have hR := Lib.hid (PutR.none_ H (Below.refl _ _) e)
    by_cases h1 : numOk p
    · have h2 : ¬ numOk q := fun h2 => h ⟨h1, h2⟩
      rw [decide_eq_true h1] at cp
      rw [decide_eq_false h2] at cq
      clear H e h h1 h2
      go_enter Tryz.func50, Tryz.ntmps50
      go_wp2_with (first
        | (go_at_call 56; (with_reducible refine cp.out.mono ?_); rintro r w1 ⟨rfl, rfl⟩)
        | (go_at_call 56; (with_reducible refine cq.out.mono ?_); rintro r w1 ⟨rfl, rfl⟩))
      go_ret
      exact hR.out
    · rw [decide_eq_false h1] at cp
      clear H e h h1 cq
      go_enter Tryz.func50, Tryz.ntmps50
      go_wp2_with (first
        | (go_at_call 56; (with_reducible refine cp.out.mono ?_); rintro r w1 ⟨rfl, rfl⟩))
      go_ret
      exact hR.out
theorem key_any (p : Int) :
    Calls Tryz.prog 33 #[.pointer (some ⟨A.g, 0, none⟩), .int .i64 p] w (PutR w B A (keyT p)) := by
  have cp := Lib.hid (number_any p w)
  by_cases h : numOk p
  · have e : keyT p = mkO 3 p.toNat 0 [] [] := by unfold keyT; rw [if_pos h]
    have hok := keyT_ok p
    rw [e] at hok ⊢
    obtain ⟨i, rfl⟩ := Int.eq_ofNat_of_zero_le h.1
    rw [Int.toNat_natCast] at hok ⊢
    have cP : Calls Tryz.prog 57 #[.pointer (some ⟨A.g, 0, none⟩), .agg #[.int .i64 3, .int .i64 i, .int .i64 0, .string ⟨#[]⟩, .slice none 0 0]] w (PutR w B A (mkO 3 i 0 [] [])) := put_any A B 3 i 0 [] [] none 0 0 w H hB hN (by simp) (by omega) Rws.nil_ hok
    rw [decide_eq_true h] at cp
    have cP := Lib.hid cP
    clear H hok e h
    go_enter Tryz.func33, Tryz.ntmps33
    go_wp2_with (first
      | (go_at_call 56; (with_reducible refine cp.out.mono ?_); rintro r w1 ⟨rfl, rfl⟩)
      | (go_at_call 57; refine cP.out.mono ?_; rintro r w1 ⟨A', x, rfl, hG, hM⟩))
    go_ret
    exact ⟨A', x, rfl, hG, hM⟩
  · have e : keyT p = none := by unfold keyT; rw [if_neg h]
    have hR := Lib.hid (PutR.none_ H (Below.refl _ _) e)
    rw [decide_eq_false h] at cp
    clear H e h
    go_enter Tryz.func33, Tryz.ntmps33
    go_wp2_with (go_at_call 56; (with_reducible refine cp.out.mono ?_); rintro r w1 ⟨rfl, rfl⟩)
    go_ret
    exact hR.out
theorem base_any (s : List UInt8) (hs : s.length ≤ 4000000000) :
    Calls Tryz.prog 48 #[.pointer (some ⟨A.g, 0, none⟩), .string (bs s)] w (PutR w B A (baseT s)) := by
  have cp : Calls Tryz.prog 81 #[.string (bs s), .int .i64 2100] w fun r w' => r = .returned (.bool (decide (txtOk s 2100))) ∧ w = w' := text_any s 2100 w hs
  have cp := Lib.hid cp
  by_cases h : txtOk s 2100
  · have e : baseT s = mkO 5 0 0 s [] := by unfold baseT; rw [if_pos h]
    have hok := baseT_ok s
    rw [e] at hok ⊢
    have cP : Calls Tryz.prog 57 #[.pointer (some ⟨A.g, 0, none⟩), .agg #[.int .i64 5, .int .i64 0, .int .i64 0, .string (bs s), .slice none 0 0]] w (PutR w B A (mkO 5 0 0 s [])) := put_any A B 5 0 0 s [] none 0 0 w H hB hN hs (by omega) Rws.nil_ hok
    rw [decide_eq_true h] at cp
    have cP := Lib.hid cP
    clear H hok e h
    go_enter Tryz.func48, Tryz.ntmps48
    go_wp2_with (first
      | (go_at_call 81; refine cp.out.mono ?_; rintro r w1 ⟨rfl, rfl⟩)
      | (go_at_call 57; refine cP.out.mono ?_; rintro r w1 ⟨A', x, rfl, hG, hM⟩))
    go_ret
    exact ⟨A', x, rfl, hG, hM⟩
  · have e : baseT s = none := by unfold baseT; rw [if_neg h]
    have hR := Lib.hid (PutR.none_ H (Below.refl _ _) e)
    rw [decide_eq_false h] at cp
    clear H e h
    go_enter Tryz.func48, Tryz.ntmps48
    go_wp2_with (go_at_call 81; refine cp.out.mono ?_; rintro r w1 ⟨rfl, rfl⟩)
    go_ret
    exact hR.out
theorem pub_any (x : Int) :
    Calls Tryz.prog 60 #[.pointer (some ⟨A.g, 0, none⟩), .int .i64 x] w (PutR w B A (pubT (get A.L x))) := by
  have cI : Calls Tryz.prog 76 #[.pointer (some ⟨A.g, 0, none⟩), .int .i64 x, .int .i64 3] w fun r w' => r = .returned (.bool (isB A x 3)) ∧ w = w' := is_any A B x 3 w H
  rw [isB_eq (by decide)] at cI
  by_cases h : kindO (get A.L x) = 3
  · have e : pubT (get A.L x) = mkO 4 0 0 [] [get A.L x] := by unfold pubT; rw [if_pos h]
    have hok := pubT_ok (H.good.okO x)
    rw [e] at hok ⊢
    have hb := below_new w (.cells #[.int .i64 x] 33)
    have cP : Calls Tryz.prog 57 #[.pointer (some ⟨A.g, 0, none⟩), .agg #[.int .i64 4, .int .i64 0, .int .i64 0, .string ⟨#[]⟩, .slice (some ⟨w.heap.size, 0, none⟩) 1 1]] (w.alloc (.cells #[.int .i64 x] 33)) (PutR (w.alloc (.cells #[.int .i64 x] 33)) B A (mkO 4 0 0 [] [get A.L x])) := put_any A B 4 0 0 [] [x] (some ⟨w.heap.size, 0, none⟩) 1 1 _ (H.keep hb) (Nat.le_trans hB hb.size) hN (by simp) (by omega) (ints_new w [x] _) hok
    rw [show (kindO (get A.L x) == 3) = true by simp [h]] at cI
    have cP := Lib.hid cP
    have cI := Lib.hid cI
    have hb := Lib.hid hb
    clear H hok e h
    go_enter Tryz.func60, Tryz.ntmps60
    go_wp2_with (first
      | (go_at_call 76; refine cI.out.mono ?_; rintro r w1 ⟨rfl, rfl⟩)
      | (go_at_call 57; refine cP.out.mono ?_; rintro r w1 h1; obtain ⟨A', x', rfl, hG, hM⟩ := PutR.of_below hb.out h1))
    go_ret
    exact ⟨A', x', rfl, hG, hM⟩
  · have e : pubT (get A.L x) = none := by unfold pubT; rw [if_neg h]
    have hR := Lib.hid (PutR.none_ H (Below.refl _ _) e)
    rw [show (kindO (get A.L x) == 3) = false by simp [h]] at cI
    have cI := Lib.hid cI
    clear H e h
    go_enter Tryz.func60, Tryz.ntmps60
    go_wp2_with (go_at_call 76; refine cI.out.mono ?_; rintro r w1 ⟨rfl, rfl⟩)
    go_ret
    exact hR.out
theorem hash_any (x : Int) :
    Calls Tryz.prog 52 #[.pointer (some ⟨A.g, 0, none⟩), .int .i64 x] w (PutR w B A (hashT (get A.L x))) := by
  have hok := hashT_ok (H.good.okO x)
  unfold hashT at hok ⊢
  have hb := below_new w (.cells #[.int .i64 x] 33)
  have cP : Calls Tryz.prog 57 #[.pointer (some ⟨A.g, 0, none⟩), .agg #[.int .i64 7, .int .i64 0, .int .i64 0, .string ⟨#[]⟩, .slice (some ⟨w.heap.size, 0, none⟩) 1 1]] (w.alloc (.cells #[.int .i64 x] 33)) (PutR (w.alloc (.cells #[.int .i64 x] 33)) B A (mkO 7 0 0 [] [get A.L x])) := put_any A B 7 0 0 [] [x] (some ⟨w.heap.size, 0, none⟩) 1 1 _ (H.keep hb) (Nat.le_trans hB hb.size) hN (by simp) (by omega) (ints_new w [x] _) hok
  have cP := Lib.hid cP
  have hb := Lib.hid hb
  clear H hok
  go_enter Tryz.func52, Tryz.ntmps52
  go_wp2_with (go_at_call 57; refine cP.out.mono ?_; rintro r w1 h1; obtain ⟨A', x', rfl, hG, hM⟩ := PutR.of_below hb.out h1)
  go_ret
  exact ⟨A', x', rfl, hG, hM⟩
theorem list_any (ys : List Int) (Aa : Option Addr) (m c : Nat) (hm : m ≤ 1000) (hY : Ints w Aa m ys) :
    Calls Tryz.prog 42 #[.pointer (some ⟨A.g, 0, none⟩), .slice Aa m c] w (PutR w B A (listT (ys.map (get A.L)))) := by
  have hyl := hY.len
  by_cases h : m ≤ 32
  · have e : listT (ys.map (get A.L)) = mkO 10 0 0 [] (ys.map (get A.L)) := by unfold listT; rw [if_pos (by rw [List.length_map]; omega)]
    have hok : okO (listT (ys.map (get A.L))) := listT_ok (fun o ho => by
      obtain ⟨y, _, rfl⟩ := List.mem_map.1 ho
      exact H.good.okO y)
    rw [e] at hok ⊢
    have cP : Calls Tryz.prog 57 #[.pointer (some ⟨A.g, 0, none⟩), .agg #[.int .i64 10, .int .i64 0, .int .i64 0, .string ⟨#[]⟩, .slice Aa m c]] w (PutR w B A (mkO 10 0 0 [] (ys.map (get A.L)))) := put_any A B 10 0 0 [] ys Aa m c w H hB hN (by simp) (by omega) hY hok
    have cP := Lib.hid cP
    have h' : ¬ 32 < m := by omega
    clear H hok e hY
    go_enter Tryz.func42, Tryz.ntmps42
    go_wp2_with (go_at_call 57; refine cP.out.mono ?_; rintro r w1 ⟨A', x, rfl, hG, hM⟩)
    go_ret
    exact ⟨A', x, rfl, hG, hM⟩
  · have e : listT (ys.map (get A.L)) = none := by unfold listT; rw [if_neg (by rw [List.length_map]; omega)]
    have hR := Lib.hid (PutR.none_ H (Below.refl _ _) e)
    have h' : 32 < m := by omega
    clear H e h hY
    go_enter Tryz.func42, Tryz.ntmps42
    go_wp2_with fail
    go_ret
    exact hR.out
end
def sizeO (o : Option Tm) : Nat := match o with | some t => t.len | none => 0
def kindT (o : Option Tm) : Nat := kindO o
theorem kind_any (A : Ar) (B : Nat) (w : World) (H : Arena w B A) (x : Int) :
    Calls Tryz.prog 43 #[.pointer (some ⟨A.g, 0, none⟩), .int .i64 x] w fun r w' => r = .returned (.int .i64 (kindO (get A.L x))) ∧ w = w' := by
  have cH := has_any A B x w H
  cases hg : get A.L x with
  | none =>
    rw [show hasB A x = false by unfold hasB; rw [hg]; rfl] at cH
    have cH := Lib.hid cH
    clear H hg
    go_enter Tryz.func43, Tryz.ntmps43
    go_wp2_with (go_at_call 58; refine cH.out.mono ?_; rintro r w1 ⟨rfl, rfl⟩)
    go_ret
    exact ⟨rfl, rfl⟩
  | some t =>
    rw [show hasB A x = true by unfold hasB; rw [hg]; rfl] at cH
    have cH := Lib.hid cH
    obtain ⟨j, rfl, hj⟩ := get_some hg
    obtain ⟨nd, hnd, rfl⟩ := Ar.N_at hj
    obtain ⟨An, cn, As, cs, e1, e2, c0, c1, c2, h1, h2⟩ := H.open_
    obtain ⟨b, off, cn', ev, hb, hr, hjl⟩ := H.node hnd
    obtain ⟨f0, f1, f2, f3, f4⟩ := Nd.flds hr
    rw [e1] at ev
    injection ev with ev _ _
    subst ev
    clear H hg hj hnd h1 h2 e1 e2 f1 f2 f3 f4 hr
    go_enter Tryz.func43, Tryz.ntmps43
    go_wp2_with (go_at_call 58; refine cH.out.mono ?_; rintro r w1 ⟨rfl, rfl⟩)
    go_ret
    exact ⟨rfl, rfl⟩
end

section
open Go.RowKit

theorem resV2 {P : Program} {fn : Func} {p u : Tmp} {ty : TypeId} (h : fn.results = #[.cell p ty, .tmp u]) (tmps : Array Value) (w : World) (g : Nat) (t : TypeId) (cs : Array Value) (fr : Nat × Nat) (d : TypeDesc) (v : Value)
    (hp : tmps.getD p undef = .pointer (some ⟨g, 0, none⟩)) (hg : w.heap[g]? = some (.cells cs t fr))
    (hu : P.underlying ty = some d) (hd : (match d with | .struct _ | .array _ _ => true | _ => false) = true) (hi : (P.info? ty).map (·.size) = some cs.size) (hv : tmps.getD u undef = v) :
    (results fn tmps).run P w = .ok (.tuple #[.agg cs, v]) w := by
  rw [results_cell_tmp h, hp, hv]
  simp [asAddr, run_loadVar_row w g t ty cs fr d hg hu hd hi]
theorem hsetRow (w : World) (g : Nat) (old cs : Array Value) (t : TypeId) (fr : Nat × Nat) (h : w.heap[g]? = some (.cells old t fr)) : (w.setRow g cs).heap[g]? = some (.cells cs t fr) := by
  simp only [World.setRow, Array.getElem?_modify, if_true, h, Option.map_some]
end

section
open Go.RowKit Go.Maps

def zNd : List Value := [.int .i64 0, .int .i64 0, .int .i64 0, .string ⟨#[]⟩, .slice none 0 0]
theorem zNd_one : zNd.toArray.all (·.oneCell') = true := by simp [zNd, Value.oneCell']
theorem nd_all {k a b : Nat} {s : List UInt8} {A : Option Addr} {n c : Nat} : (ndC k a b s (.slice A n c)).toArray.all (·.oneCell') = true := by simp [ndC, Value.oneCell']
theorem hsetRow_off {w : World} {g k : Nat} (h : k ≠ g) (cs : Array Value) : (w.setRow g cs).heap[k]? = w.heap[k]? := by
  simp only [World.setRow, Array.getElem?_modify, if_neg (Ne.symm h)]
theorem view_none (A : Ar) (B : Nat) (w : World) (H : Arena w B A) (x : Int) (hg : get A.L x = none) :
    Calls Tryz.prog 34 #[.pointer (some ⟨A.g, 0, none⟩), .int .i64 x] w fun r w' => r = .returned (.tuple #[.agg zNd.toArray, .bool false]) ∧ Below w.heap.size w w' := by
  have hB1 := below_new w (.cells zNd.toArray 68)
  have cH := has_any A B x _ (H.keep hB1)
  rw [show hasB A x = false by unfold hasB; rw [hg]; rfl] at cH
  have cH := Lib.hid cH
  have hz1 := Lib.hid (heap_new w (.cells zNd.toArray 68))
  have hB1 := Lib.hid hB1
  clear H hg
  go_enter Tryz.func34, Tryz.ntmps34
  go_wp2_with (first
    | (go_at_call 58; refine cH.out.mono ?_; rintro r w1 ⟨rfl, rfl⟩)
    | (refine wpList_store_at 68 _ _ rfl rfl w.heap.size zNd.toArray rfl rfl 68 zNd.toArray hz1.out (by kernel_rfl) rfl zNd_one ?_))
  refine bodyPost_ret (resV2 rfl _ _ w.heap.size 68 zNd.toArray (0, 0) _ _ rfl (hsetRow _ _ _ _ _ _ hz1.out) Tryz.underlying68 rfl (by kernel_rfl) rfl) rfl ⟨rfl, below_setRow hB1.out (Nat.le_refl _) _⟩
theorem OwnR.monoB {w : World} {base base' k : Nat} {E : TypeId} {v : Value} {zs : List (List Value)} (h : OwnR w base k E v zs) (hB : base' ≤ base) : OwnR w base' k E v zs := by
  obtain ⟨⟨hl, hh⟩, hz⟩ := h
  refine ⟨⟨hl, ?_⟩, hz⟩
  rcases hh with h0 | ⟨g, cap, cur, hv, hg, r⟩
  · exact .inl h0
  · exact .inr ⟨g, cap, cur, hv, by omega, r⟩
set_option maxRecDepth 100000 in
set_option maxHeartbeats 2000000 in
theorem view_own (A : Ar) (B : Nat) (w : World) (H : Arena w B A) (x : Int) (t : Tm) (hg : get A.L x = some t) :
    Calls Tryz.prog 34 #[.pointer (some ⟨A.g, 0, none⟩), .int .i64 x] w fun r w' => ∃ (Av : Option Addr) (c : Nat) (xs : List Nat), r = .returned (.tuple #[.agg (ndC t.kind t.a t.b t.s (.slice Av t.args.length c)).toArray, .bool true]) ∧ OwnR w' w.heap.size 1 33 (.slice Av t.args.length c) (xs.map idv) ∧ xs.map (fun i => A.L[i]?) = t.args.map some ∧ Below w.heap.size w w' := by
  obtain ⟨j, rfl, hj⟩ := get_some hg
  obtain ⟨nd, hnd, rfl⟩ := Ar.N_at hj
  obtain ⟨Ai, ci, ev, hI, _⟩ := H.ids nd (List.mem_of_getElem? hnd)
  have hargs := Lib.hid (H.args nd (List.mem_of_getElem? hnd))
  have hxl : nd.xs.length = nd.t.args.length := by have := congrArg List.length hargs.out; simpa using this
  have hfew := H.few
  have ha8 : nd.t.args.length ≤ 1000000 := by
    have hok := H.good.ok nd.t (List.mem_of_getElem? (Ar.L_at hnd))
    generalize nd.t = t at hok
    obtain ⟨k, a, b, s, args⟩ := t
    rw [ok_mk] at hok
    have := hok.1
    unfold okHd at this
    simp only [Tm.args]
    omega
  have hB1 := below_new w (.cells zNd.toArray 68)
  have cH := has_any A B j _ (H.keep hB1)
  rw [show hasB A j = true by unfold hasB; rw [hg]; rfl] at cH
  have cH := Lib.hid cH
  have H1 := H.keep hB1
  obtain ⟨An, cn, As, cs, e1, e2, c0, c1, c2, h1, h2⟩ := H1.open_
  obtain ⟨b, off, cn', ev2, hb, hr, hjl⟩ := H1.node hnd
  rw [e1] at ev2
  injection ev2 with ev2 _ _
  subst ev2
  rw [hxl] at hI ev
  obtain ⟨k, a, b', s, v, hrow⟩ : ∃ (k a b' : Nat) (s : List UInt8) (v : Value), k = nd.t.kind ∧ a = nd.t.a ∧ b' = nd.t.b ∧ s = nd.t.s ∧ v = nd.v := ⟨_, _, _, _, _, rfl, rfl, rfl, rfl, rfl⟩
  have hrr : (w.alloc (.cells zNd.toArray 68)).rangeAt b (off + j * 5) (ndC k a b' s v) := by
    obtain ⟨rfl, rfl, rfl, rfl, rfl⟩ := hrow
    exact hr
  obtain ⟨e3, e4, e5, e6, e7⟩ := hrow
  rw [← e7] at ev
  rw [← e3, ← e4, ← e5, ← e6]
  generalize hn : nd.t.args.length = n at *
  clear c1 c2 h1 h2 e1 e2 e3 e4 e5 e6 e7 hr H H1 hg hj hn
  have hBz := hB1.trans (Below.mono (below_new (w.alloc (.cells zNd.toArray 68)) (.cells #[.int .i64 0, .int .i64 0, .int .i64 0, .string ⟨#[]⟩, .slice none 0 0] 68)) hB1.size)
  have hzz := heap_past (heap_new w (.cells zNd.toArray 68)) (.cells #[.int .i64 0, .int .i64 0, .int .i64 0, .string ⟨#[]⟩, .slice none 0 0] 68)
  have hnz := heap_new (w.alloc (.cells zNd.toArray 68)) (.cells #[.int .i64 0, .int .i64 0, .int .i64 0, .string ⟨#[]⟩, .slice none 0 0] 68)
  rw [show (w.alloc (.cells zNd.toArray 68)).heap.size = w.heap.size + 1 by simp] at hnz
  have hnz1 := Lib.hid hnz
  have hB2 := below_setRow hBz (Nat.le_succ _) (g := w.heap.size + 1) (ndC k a b' s v).toArray
  have hn2 := hsetRow _ _ _ (ndC k a b' s v).toArray _ _ hnz
  have hz2 := (hsetRow_off (w := (w.alloc (.cells zNd.toArray 68)).alloc (.cells #[.int .i64 0, .int .i64 0, .int .i64 0, .string ⟨#[]⟩, .slice none 0 0] 68)) (g := w.heap.size + 1) (k := w.heap.size) (by omega) (ndC k a b' s v).toArray).trans hzz
  have cC := Lib.hid (cloneI_any nd.xs Ai n ci _ hxl ha8 (hI.keep hB2))
  have hn2 := Lib.hid hn2
  have hz2 := Lib.hid hz2
  have hB2 := Lib.hid hB2
  have hrr1 := Lib.hid hrr
  clear hBz hzz hnz hB1 hI
  subst ev
  go_enter Tryz.func34, Tryz.ntmps34
  go_upto_region 4 with (first
    | (go_at_call 58; refine cH.out.mono ?_; rintro r w1 ⟨rfl, rfl⟩)
    | (refine wpList_load_at 68 _ rfl rfl b (off + j * 5) rfl (ndC k a b' s (.slice Ai n ci)) _ hrr1.out Tryz.underlying68 rfl (by kernel_rfl) ?_)
    | (refine wpList_store_at 68 _ _ rfl rfl (w.heap.size + 1) (ndC k a b' s (.slice Ai n ci)).toArray rfl rfl 68 zNd.toArray hnz1.out (by kernel_rfl) rfl nd_all ?_))
  generalize ((w.alloc (.cells zNd.toArray 68)).alloc (.cells #[.int .i64 0, .int .i64 0, .int .i64 0, .string ⟨#[]⟩, .slice none 0 0] 68)).setRow (w.heap.size + 1) (ndC k a b' s (.slice Ai n ci)).toArray = W2 at *
  clear c0 hb hjl hrr cH hnz1
  have hc4 : W2.cell? ⟨w.heap.size + 1, 4, none⟩ = some (.slice Ai n ci) := cell_of_row W2 (w.heap.size + 1) 4 _ _ _ hn2.out
  go_upto_region 5 with fail
  refine cC.out.mono ?_
  rintro r W3 ⟨v5, rfl, hO5, hb5⟩
  have hl2 := (Array.getElem?_eq_some_iff.1 hn2.out).1
  have hl1 := (Array.getElem?_eq_some_iff.1 hz2.out).1
  have hn3 := (hb5.block (w.heap.size + 1) hl2).trans hn2.out
  have hz3 := (hb5.block w.heap.size hl1).trans hz2.out
  have hB3 := hB2.out.trans (hb5.mono hB2.out.size)
  have hfz := frozen_of_row W3 (w.heap.size + 1) 4 _ _ hn3
  have hcc : W3.cell? ⟨w.heap.size + 1, 4, none⟩ = some (.slice Ai n ci) := cell_of_row W3 (w.heap.size + 1) 4 _ _ _ hn3
  obtain ⟨A5, c5, e5, _⟩ := hO5.rws
  rw [List.length_map, hxl] at e5
  subst e5
  have hB4 := Lib.hid (hB3.setCell (p := ⟨w.heap.size + 1, 4, none⟩) (Nat.le_succ _) (.slice A5 n c5))
  have hn4 : (W3.setCell ⟨w.heap.size + 1, 4, none⟩ (.slice A5 n c5)).heap[w.heap.size + 1]? = some (.cells (ndC k a b' s (.slice A5 n c5)).toArray 68 (0, 0)) := by
    rw [heap_setCell_same W3 (w.heap.size + 1) 4 _ _ _ hn3]; rfl
  have hz4 := Lib.hid ((heap_setCell_other W3 ⟨w.heap.size + 1, 4, none⟩ w.heap.size (.slice A5 n c5) (by simp)).trans hz3)
  have hr4 := Lib.hid (rangeAt_list hn4)
  have hO4 := Lib.hid (hO5.keepF (F := fun q => some (w.heap.size + 1) = some q) (Keeps.of_grown (grown_set W3 ⟨w.heap.size + 1, 4, none⟩ (.slice A5 n c5)) fun q hq => hq) (fun q hq hf => by have := hO5.1.lt q hq; have := Option.some.inj hf; omega))
  clear hn3 hz3 hB3 hO5 hn4 hc4 hb5
  go_upto_region 5 with fail
  generalize W3.setCell ⟨w.heap.size + 1, 4, none⟩ (.slice A5 n c5) = W4 at *
  have hO6 := Lib.hid (hO4.out.keepF (w' := W4.setRow w.heap.size (ndC k a b' s (.slice A5 n c5)).toArray) (F := fun q => q = w.heap.size) ⟨rfl, rfl, rfl, by simp [World.setRow], fun q _ hq => hsetRow_off hq _⟩ (fun q hq hf => by have := hO4.out.1.lt q hq; omega))
  go_wp2_with (first
    | (refine wpList_load_at 68 _ rfl rfl (w.heap.size + 1) 0 rfl (ndC k a b' s (.slice A5 n c5)) _ hr4.out Tryz.underlying68 rfl (by kernel_rfl) ?_)
    | (refine wpList_store_at 68 _ _ rfl rfl w.heap.size (ndC k a b' s (.slice A5 n c5)).toArray rfl rfl 68 zNd.toArray hz4.out (by kernel_rfl) rfl nd_all ?_))
  have hR7 := OwnR.monoB hO6.out hB2.out.size
  refine bodyPost_ret (resV2 rfl _ _ w.heap.size 68 (ndC k a b' s (.slice A5 n c5)).toArray (0, 0) _ _ rfl (hsetRow _ _ _ _ _ _ hz4.out) Tryz.underlying68 rfl (by kernel_rfl) rfl) rfl ⟨A5, c5, nd.xs, rfl, hR7, hargs.out, below_setRow hB4.out (Nat.le_refl _) _⟩
theorem view_some (A : Ar) (B : Nat) (w : World) (H : Arena w B A) (x : Int) (t : Tm) (hg : get A.L x = some t) :
    Calls Tryz.prog 34 #[.pointer (some ⟨A.g, 0, none⟩), .int .i64 x] w fun r w' => ∃ (Av : Option Addr) (c : Nat) (xs : List Nat), r = .returned (.tuple #[.agg (ndC t.kind t.a t.b t.s (.slice Av t.args.length c)).toArray, .bool true]) ∧ Rws w' 1 Av t.args.length (xs.map idv) ∧ xs.map (fun i => A.L[i]?) = t.args.map some ∧ Below w.heap.size w w' := by
  refine (view_own A B w H x t hg).mono ?_
  rintro r w' ⟨Av, c, xs, rfl, hO, hx, hb⟩
  obtain ⟨A7, c7, e7, hR7⟩ := hO.rws
  have hl : xs.length = t.args.length := by have := congrArg List.length hx; simpa using this
  rw [List.length_map, hl] at e7 hR7
  injection e7 with e7 _ e8
  subst e7
  exact ⟨Av, c, xs, rfl, hR7, hx, hb⟩
end

section
open Go.RowKit Go.Maps

/-- Blocks of other types than an arena's stay. -/
def Stay (w w' : World) : Prop := ∀ (q : Nat) (cur : Array Value) (t : TypeId) (fr : Nat × Nat), w.heap[q]? = some (.cells cur t fr) → t ≠ 75 → t ≠ 68 → t ≠ 3 → w'.heap[q]? = some (.cells cur t fr)
theorem Stay.refl (w : World) : Stay w w := fun _ _ _ _ h _ _ _ => h
theorem Stay.trans {a b c : World} (h : Stay a b) (k : Stay b c) : Stay a c := fun q cur t fr hq h1 h2 h3 => k q cur t fr (h q cur t fr hq h1 h2 h3) h1 h2 h3
theorem Stay.of_below {w w' : World} (h : Below w.heap.size w w') : Stay w w' := fun q _ _ _ hq _ _ _ => (h.block q (Array.getElem?_eq_some_iff.1 hq).1).trans hq
theorem Stay.of_keeps {w w' : World} {B : Nat} {A : Ar} (H : Arena w B A) (h : Keeps A.has w w') : Stay w w' := fun q cur t fr hq h1 h2 h3 =>
  (h.block q (Array.getElem?_eq_some_iff.1 hq).1 fun hf => by
    have hT : Typ w q t := ⟨_, _, hq⟩
    rcases hf with rfl | rfl | hf | hf
    · exact hT.ne ⟨_, _, H.blk⟩ h1 rfl
    · obtain ⟨D, ⟨es, cl, hb, _⟩, _⟩ := H.map
      exact hT.no_map hb rfl
    · exact hT.ne (H.nodes.typ hf) h2 rfl
    · exact hT.ne (OwnR.typ H.sizes hf) h3 rfl).trans hq
/-- An arena made since w, of the terms L. -/
def St (w : World) (g : Nat) (W : World) (L : List Tm) : Prop := ∃ A : Ar, A.g = g ∧ A.L = L ∧ Arena W w.heap.size A ∧ Below w.heap.size w W
theorem St.below {w : World} {g : Nat} {W : World} {L : List Tm} (h : St w g W L) : Below w.heap.size w W := by obtain ⟨_, _, _, _, h⟩ := h; exact h
theorem St.good {w : World} {g : Nat} {W : World} {L : List Tm} (h : St w g W L) : Good L := by obtain ⟨A, _, rfl, H, _⟩ := h; exact H.good
theorem St.few {w : World} {g : Nat} {W : World} {L : List Tm} (h : St w g W L) : L.length ≤ 100 := by obtain ⟨A, _, rfl, H, _⟩ := h; rw [A.L_len]; exact H.few
theorem St.keep {w : World} {g : Nat} {W W' : World} {L : List Tm} (h : St w g W L) (hb : Below W.heap.size W W') : St w g W' L := by
  obtain ⟨A, h1, h2, H, hB⟩ := h
  exact ⟨A, h1, h2, H.keep hb, hB.trans (hb.mono hB.size)⟩
theorem St.start {w : World} {A : Ar} {W : World} (hN : A.N = []) (h : Arena W w.heap.size A) (hb : Below w.heap.size w W) : St w A.g W [] := ⟨A, rfl, by simp [Ar.L, hN], h, hb⟩
/-- Two readings of one arena have the same slices in their nodes. -/
theorem Arena.same_v {w : World} {B B' : Nat} {A A' : Ar} (h : Arena w B A) (h' : Arena w B' A') (hg : A.g = A'.g) : A.N.map Nd.v = A'.N.map Nd.v := by
  have hb := h.blk
  rw [hg, h'.blk] at hb
  have e1 : A'.vn = A.vn := by simp only [Option.some.injEq, Obj.cells.injEq, Array.mk.injEq, List.cons.injEq] at hb; exact hb.1.1
  obtain ⟨An, cn, ev, hr⟩ := h.nodes.rws
  obtain ⟨An', cn', ev', hr'⟩ := h'.nodes.rws
  rw [e1, ev] at ev'
  injection ev' with q1 q2 q3
  subst q1
  simp only [List.length_map] at q2 hr hr'
  refine List.ext_getElem? fun j => ?_
  rw [List.getElem?_map, List.getElem?_map]
  rcases Nat.lt_or_ge j A.N.length with hj | hj
  · obtain ⟨b, off, z, e, _, hz, _, hc⟩ := hr.row hj
    obtain ⟨b', off', z', e', _, hz', _, hc'⟩ := hr'.row (show j < A'.N.length by omega)
    rw [e] at e'
    injection e' with e'
    injection e' with e2 e3 e4
    subst e2
    subst e3
    rw [List.getElem?_map] at hz hz'
    rw [List.getElem?_eq_getElem hj] at hz ⊢
    rw [List.getElem?_eq_getElem (show j < A'.N.length by omega)] at hz' ⊢
    have hz := Option.some.inj hz
    have hz' := Option.some.inj hz'
    have c4 := hc 4 (A.N[j]).v (by rw [← hz]; rfl)
    have c4' := hc' 4 (A'.N[j]).v (by rw [← hz']; rfl)
    rw [c4] at c4'
    simpa using c4'
  · rw [List.getElem?_eq_none hj, List.getElem?_eq_none (by omega)]
/-- No node's numbers lie in a block of F. -/
def OffE (W : World) (g : Nat) (F : Nat → Prop) : Prop := ∃ B A, Arena W B A ∧ A.g = g ∧ ∀ x ∈ A.N, OffS F x.v
theorem OffE.at_ {W : World} {g B : Nat} {F : Nat → Prop} {A : Ar} (h : OffE W g F) (H : Arena W B A) (hg : A.g = g) : ∀ x ∈ A.N, OffS F x.v := fun x hx => by
  obtain ⟨B1, A1, H1, h1, h2⟩ := h
  have e := H.same_v H1 (hg.trans h1.symm)
  have hm : x.v ∈ A.N.map Nd.v := List.mem_map_of_mem hx
  rw [e] at hm
  obtain ⟨y, hy, hv⟩ := List.mem_map.1 hm
  rw [← hv]
  exact h2 y hy
/-- Blocks in which no node's numbers lay are still such. -/
def Fresh (g : Nat) (W W' : World) : Prop := ∀ F : Nat → Prop, (∀ q, F q → q < W.heap.size) → OffE W g F → OffE W' g F
theorem OffE.keep {W W' : World} {g : Nat} {F : Nat → Prop} (h : OffE W g F) (hb : Below W.heap.size W W') : OffE W' g F := by
  obtain ⟨B, A, H, h1, h2⟩ := h
  exact ⟨B, A, H.keep hb, h1, h2⟩
theorem Fresh.of_below {g : Nat} {W W' : World} (hb : Below W.heap.size W W') : Fresh g W W' := fun _ _ h => h.keep hb
theorem Fresh.trans {g : Nat} {a b c : World} (h : Fresh g a b) (hs : a.heap.size ≤ b.heap.size) (k : Fresh g b c) : Fresh g a c := fun F hF ho => k F (fun q hq => Nat.lt_of_lt_of_le (hF q hq) hs) (h F hF ho)
theorem Fresh.of_grew {w w' : World} {B : Nat} {A A' : Ar} {o : Option Tm} (H : Arena w B A) (h : Grew w w' B A A' o) : Fresh A.g w w' := fun F hF ho => ⟨B, A', h.arena, h.same, fun x hx => by
  rcases h.fresh x hx with hx | hx
  · exact ho.at_ H rfl x hx
  · exact fun _ _ _ _ _ q hq hf => absurd (hF q hf) (Nat.not_lt.2 (hx q hq))⟩
/-- A term more. -/
def SR (w : World) (g : Nat) (W : World) (L : List Tm) (o : Option Tm) (r : Ending) (W' : World) : Prop := ∃ L' x, r = .returned (.int .i64 x) ∧ St w g W' L' ∧ Grow L L' o ∧ Nm L' x o ∧ Stay W W' ∧ W.heap.size ≤ W'.heap.size ∧ Fresh g W W'
theorem St.put {w : World} {g : Nat} {W : World} {L : List Tm} {o : Option Tm} {P : Program} {f : FuncId} {args : Array Value} (h : St w g W L) (hL : L.length < 100)
    (hc : ∀ A, A.g = g → A.L = L → Arena W w.heap.size A → w.heap.size ≤ W.heap.size → A.N.length < 100 → Calls P f args W (PutR W w.heap.size A o)) : Calls P f args W (SR w g W L o) := by
  obtain ⟨A, h1, h2, H, hB⟩ := h
  refine (hc A h1 h2 H hB.size (by rw [← A.L_len, h2]; exact hL)).mono ?_
  rintro r W' ⟨A', x, rfl, hG, hM⟩
  exact ⟨A'.L, x, rfl, ⟨A', hG.same.trans h1, rfl, hG.arena, hB.trans (hG.keeps.below (fun k hk => (H.has_ge hk).1) hB.size)⟩, h2 ▸ hG.grow, hM, Stay.of_keeps H hG.keeps, hG.keeps.size, h1 ▸ Fresh.of_grew H hG⟩
section
variable {w : World} {g : Nat} {W : World} {L : List Tm} (h : St w g W L) (hL : L.length < 100)
include h hL
theorem St.data (s : List UInt8) (hs : s.length ≤ 4000000000) : Calls Tryz.prog 53 #[.pointer (some ⟨g, 0, none⟩), .string (bs s)] W (SR w g W L (dataT s)) :=
  h.put hL fun A h1 _ H hB hN => by subst h1; exact data_any A _ W H hB hN s hs
theorem St.nonce (p q : Int) : Calls Tryz.prog 50 #[.pointer (some ⟨g, 0, none⟩), .int .i64 p, .int .i64 q] W (SR w g W L (nonceT p q)) :=
  h.put hL fun A h1 _ H hB hN => by subst h1; exact nonce_any A _ W H hB hN p q
theorem St.key (p : Int) : Calls Tryz.prog 33 #[.pointer (some ⟨g, 0, none⟩), .int .i64 p] W (SR w g W L (keyT p)) :=
  h.put hL fun A h1 _ H hB hN => by subst h1; exact key_any A _ W H hB hN p
theorem St.base (s : List UInt8) (hs : s.length ≤ 4000000000) : Calls Tryz.prog 48 #[.pointer (some ⟨g, 0, none⟩), .string (bs s)] W (SR w g W L (baseT s)) :=
  h.put hL fun A h1 _ H hB hN => by subst h1; exact base_any A _ W H hB hN s hs
theorem St.pub (x : Int) : Calls Tryz.prog 60 #[.pointer (some ⟨g, 0, none⟩), .int .i64 x] W (SR w g W L (pubT (get L x))) :=
  h.put hL fun A h1 h2 H hB hN => by subst h1; subst h2; exact pub_any A _ W H hB hN x
theorem St.hash (x : Int) : Calls Tryz.prog 52 #[.pointer (some ⟨g, 0, none⟩), .int .i64 x] W (SR w g W L (hashT (get L x))) :=
  h.put hL fun A h1 h2 H hB hN => by subst h1; subst h2; exact hash_any A _ W H hB hN x
theorem St.list (ys : List Int) (Aa : Option Addr) (m c : Nat) (hm : m ≤ 1000) (hY : Ints W Aa m ys) : Calls Tryz.prog 42 #[.pointer (some ⟨g, 0, none⟩), .slice Aa m c] W (SR w g W L (listT (ys.map (get L)))) :=
  h.put hL fun A h1 h2 H hB hN => by subst h1; subst h2; exact list_any A _ W H hB hN ys Aa m c hm hY
end
section
variable {w : World} {g : Nat} {W : World} {L : List Tm} (h : St w g W L)
include h
theorem St.kind (x : Int) : Calls Tryz.prog 43 #[.pointer (some ⟨g, 0, none⟩), .int .i64 x] W fun r w' => r = .returned (.int .i64 (kindO (get L x))) ∧ W = w' := by
  obtain ⟨A, rfl, rfl, H, _⟩ := h; exact kind_any A _ W H x
theorem St.len : Calls Tryz.prog 94 #[.pointer (some ⟨g, 0, none⟩)] W fun r w' => r = .returned (.int .i64 L.length) ∧ W = w' := by
  obtain ⟨A, rfl, rfl, H, _⟩ := h; rw [A.L_len]; exact len_any A _ W H
end
theorem Nm.at_ {L : List Tm} (h : L.Nodup) {x : Int} {t : Tm} {j : Nat} (hx : Nm L x (some t)) (hj : L[j]? = some t) : x = j := by
  obtain ⟨i, rfl, hi⟩ := get_some hx.1
  rw [once_inj h hi hj]
theorem Grow.old {L L' : List Tm} {t : Tm} (h : Grow L L' (some t)) (ht : t ∈ L) : L' = L := by
  rcases h with ⟨h, _⟩ | ⟨u, e, hu, _⟩
  · exact h
  · obtain rfl := Option.some.inj e; exact absurd ht hu
theorem Grow.fresh {L L' : List Tm} {t : Tm} (h : Grow L L' (some t)) (ht : t ∉ L) : L' = L ++ [t] := by
  rcases h with ⟨_, h⟩ | ⟨u, e, _, h⟩
  · exact absurd (h t rfl) ht
  · obtain rfl := Option.some.inj e; exact h
theorem Grow.none_eq {L L' : List Tm} (h : Grow L L' none) : L' = L := by
  rcases h with ⟨h, _⟩ | ⟨u, e, _⟩
  · exact h
  · cases e

def ta : Tm := .mk 1 0 0 [97] []
def tk : Tm := .mk 3 0 0 [] []
def tp : Tm := .mk 4 0 0 [] [tk]
theorem ta_eq : dataT [97] = some ta := by simp [dataT, mkO, alls, own, lens, ta]
theorem tk_eq : keyT 0 = some tk := by simp [keyT, numOk, mkO, alls, own, lens, tk]
theorem tk_len : tk.len = 5 := by rw [tk, len_mk (.inr (.inr (.inl ⟨rfl, by decide, rfl, rfl, rfl⟩)))]; simp [own, lens]
theorem tp_eq : pubT (some tk) = some tp := by
  have h := tk_len
  unfold pubT
  rw [if_pos (show kindO (some tk) = 3 from rfl)]
  simp [mkO, alls, own, lens, tp, h]
theorem St.awake1 {w : World} {g : Nat} {W : World} {L' : List Tm} {x : Int} (h : St w g W L') (hG : Grow [] L' (dataT [97])) (hM : Nm L' x (dataT [97])) : St w g W [ta] ∧ x = 0 := by
  rw [ta_eq] at hG hM
  obtain rfl := hG.fresh (by simp)
  exact ⟨h, hM.at_ h.good.once (j := 0) rfl⟩
theorem St.awake2 {w : World} {g : Nat} {W : World} {L' : List Tm} {x : Int} (h : St w g W L') (hG : Grow [ta] L' (dataT [97])) (hM : Nm L' x (dataT [97])) : St w g W [ta] ∧ x = 0 := by
  rw [ta_eq] at hG hM
  obtain rfl := hG.old (by simp)
  exact ⟨h, hM.at_ h.good.once (j := 0) rfl⟩
theorem St.awake3 {w : World} {g : Nat} {W : World} {L' : List Tm} {x : Int} (h : St w g W L') (hG : Grow [ta] L' (keyT 0)) (hM : Nm L' x (keyT 0)) : St w g W [ta, tk] ∧ x = 1 := by
  rw [tk_eq] at hG hM
  obtain rfl := hG.fresh (by simp [ta, tk])
  exact ⟨h, hM.at_ h.good.once (j := 1) rfl⟩
theorem St.awake4 {w : World} {g : Nat} {W : World} {L' : List Tm} {x : Int} (h : St w g W L') (hG : Grow [ta, tk] L' (pubT (get [ta, tk] 1))) (hM : Nm L' x (pubT (get [ta, tk] 1))) : St w g W [ta, tk, tp] ∧ x = 2 := by
  rw [show get [ta, tk] 1 = some tk from rfl, tp_eq] at hG hM
  obtain rfl := hG.fresh (by simp [ta, tk, tp])
  exact ⟨h, hM.at_ h.good.once (j := 2) rfl⟩
end

section
open Go.RowKit Go.Maps

def freshT (s n : Int) : Option Tm := if 0 ≤ s ∧ s < 2147483647 then nonceT (s + 1) n else none
theorem fresh_any (A : Ar) (B : Nat) (w : World) (H : Arena w B A) (hB : B ≤ w.heap.size) (hN : A.N.length < 100) (s n : Int) :
    Calls Tryz.prog 24 #[.pointer (some ⟨A.g, 0, none⟩), .int .i64 s, .int .i64 n] w (PutR w B A (freshT s n)) := by
  by_cases h : 0 ≤ s ∧ s < 2147483647
  · have e : freshT s n = nonceT (s + 1) n := by unfold freshT; rw [if_pos h]
    rw [e]
    have cN := Lib.hid (nonce_any A B w H hB hN (s + 1) n)
    obtain ⟨h1, h2⟩ := h
    clear H e
    go_enter Tryz.func24, Tryz.ntmps24
    go_wp2_with (go_at_call 50; refine cN.out.mono ?_; rintro r w1 ⟨A', x, rfl, hG, hM⟩)
    go_ret
    exact ⟨A', x, rfl, hG, hM⟩
  · have e : freshT s n = none := by unfold freshT; rw [if_neg h]
    have hR := Lib.hid (PutR.none_ H (Below.refl _ _) e)
    by_cases h1 : s < 0
    · clear H e h
      go_enter Tryz.func24, Tryz.ntmps24
      go_wp2_with fail
      go_ret
      exact hR.out
    · have h2 : 2147483647 ≤ s := by omega
      clear H e h
      go_enter Tryz.func24, Tryz.ntmps24
      go_wp2_with fail
      go_ret
      exact hR.out
/-- May a share be? -/
def chkB (g : List UInt8) (o : Option Tm) : Bool := match o with
  | some t => t.kind == 5 && t.s == g && decide (1 ≤ t.args.length) && decide (t.args.length < 8)
  | none => false
def zN5 : Array Value := #[.int .i64 0, .int .i64 0, .int .i64 0, .string ⟨#[]⟩, .slice none 0 0]
/-- The world behind a struct's copy into a block of its own. -/
def cpW (w : World) (cs : Array Value) : World := (w.alloc (.cells #[.int .i64 0, .int .i64 0, .int .i64 0, .string ⟨#[]⟩, .slice none 0 0] 68)).setRow w.heap.size cs
theorem cpW_row (w : World) (cs : Array Value) : (cpW w cs).heap[w.heap.size]? = some (.cells cs 68 (0, 0)) := hsetRow _ _ _ _ _ _ (heap_new w _)
theorem cpW_below (w : World) (cs : Array Value) : Below w.heap.size w (cpW w cs) := below_setRow (below_new w _) (Nat.le_refl _) _
theorem bs_ext_ {x y : ByteArray} (h : x.toList = y.toList) : x = y := by
  rw [ByteArray.toList_eq, ByteArray.toList_eq] at h
  cases x; cases y
  simp only [ByteArray.mk.injEq]
  exact Array.toList_inj.1 h
set_option maxRecDepth 100000 in
set_option maxHeartbeats 2000000 in
theorem check_none (A : Ar) (B : Nat) (w : World) (H : Arena w B A) (g : List UInt8) (x : Int) (hg : get A.L x = none) :
    Calls Tryz.prog 20 #[.pointer (some ⟨A.g, 0, none⟩), .string (bs g), .int .i64 x] w fun r w' => r = .returned (.int .i64 5) ∧ Below w.heap.size w w' := by
  have cV := Lib.hid (view_none A B w H x hg)
  clear H hg
  go_enter Tryz.func20, Tryz.ntmps20
  go_upto_region 2 with (first
    | (go_at_call 34; refine cV.out.mono ?_; rintro r w1 ⟨rfl, hb⟩
       have hz1 := Lib.hid (heap_new w1 (.cells #[.int .i64 0, .int .i64 0, .int .i64 0, .string ⟨#[]⟩, .slice none 0 0] 68))
       have hB2 := Lib.hid (hb.trans ((cpW_below w1 zNd.toArray).mono hb.size))
       clear hb)
    | (refine wpList_store_at 68 _ _ rfl rfl w1.heap.size zNd.toArray rfl rfl 68 #[.int .i64 0, .int .i64 0, .int .i64 0, .string ⟨#[]⟩, .slice none 0 0] hz1.out (by kernel_rfl) rfl zNd_one ?_))
  have hB2 : Below w.heap.size w ((w1.alloc (.cells #[.int .i64 0, .int .i64 0, .int .i64 0, .string ⟨#[]⟩, .slice none 0 0] 68)).setRow w1.heap.size zNd.toArray) := hB2.out
  generalize (w1.alloc (.cells #[.int .i64 0, .int .i64 0, .int .i64 0, .string ⟨#[]⟩, .slice none 0 0] 68)).setRow w1.heap.size zNd.toArray = w2 at *
  have hB2 := Lib.hid hB2
  go_wp2_with fail
  go_ret
  exact ⟨rfl, hB2.out⟩
set_option maxRecDepth 100000 in
set_option maxHeartbeats 2000000 in
theorem check_some (A : Ar) (B : Nat) (w : World) (H : Arena w B A) (g : List UInt8) (x : Int) (t : Tm) (hg : get A.L x = some t) :
    Calls Tryz.prog 20 #[.pointer (some ⟨A.g, 0, none⟩), .string (bs g), .int .i64 x] w fun r w' => r = .returned (.int .i64 (if chkB g (some t) then 0 else 5)) ∧ Below w.heap.size w w' := by
  have cV := Lib.hid (view_some A B w H x t hg)
  have hal : t.args.length ≤ 1000000 := by
    have hok := H.good.ok t (get_mem hg)
    obtain ⟨k, a, b, s, args⟩ := t
    rw [ok_mk] at hok
    have := hok.1
    unfold okHd at this
    simp only [Tm.args]
    omega
  obtain ⟨k, a, b, s, args⟩ := t
  simp only [Tm.args] at hal
  have hchk : chkB g (some (.mk k a b s args)) = (k == 5 && s == g && decide (1 ≤ args.length) && decide (args.length < 8)) := rfl
  rw [hchk]
  clear hchk
  obtain ⟨e, he⟩ : ∃ e : Int, (if (k == 5 && s == g && decide (1 ≤ args.length) && decide (args.length < 8)) = true then (0 : Int) else 5) = e := ⟨_, rfl⟩
  rw [he]
  have he := Lib.hid he
  clear H hg
  go_enter Tryz.func20, Tryz.ntmps20
  go_upto_region 2 with (first
    | (go_at_call 34; refine cV.out.mono ?_; rintro r w1 ⟨Av, c, xs, rfl, _, _, hb⟩
       have hz1 := Lib.hid (heap_new w1 (.cells #[.int .i64 0, .int .i64 0, .int .i64 0, .string ⟨#[]⟩, .slice none 0 0] 68))
       have hB2 := Lib.hid (hb.trans ((cpW_below w1 (ndC k a b s (.slice Av args.length c)).toArray).mono hb.size))
       have hr2 := Lib.hid (cpW_row w1 (ndC k a b s (.slice Av args.length c)).toArray)
       clear hb)
    | (refine wpList_store_at 68 _ _ rfl rfl w1.heap.size (ndC k a b s (.slice Av args.length c)).toArray rfl rfl 68 #[.int .i64 0, .int .i64 0, .int .i64 0, .string ⟨#[]⟩, .slice none 0 0] hz1.out (by kernel_rfl) rfl nd_all ?_))
  have hr : ((w1.alloc (.cells #[.int .i64 0, .int .i64 0, .int .i64 0, .string ⟨#[]⟩, .slice none 0 0] 68)).setRow w1.heap.size (ndC k a b s (.slice Av args.length c)).toArray).heap[w1.heap.size]? = some (.cells (ndC k a b s (.slice Av args.length c)).toArray 68 (0, 0)) := hr2.out
  have hB3 : Below w.heap.size w ((w1.alloc (.cells #[.int .i64 0, .int .i64 0, .int .i64 0, .string ⟨#[]⟩, .slice none 0 0] 68)).setRow w1.heap.size (ndC k a b s (.slice Av args.length c)).toArray) := hB2.out
  clear hr2 hz1 cV
  generalize (w1.alloc (.cells #[.int .i64 0, .int .i64 0, .int .i64 0, .string ⟨#[]⟩, .slice none 0 0] 68)).setRow w1.heap.size (ndC k a b s (.slice Av args.length c)).toArray = w2 at *
  have d0 : w2.cell? ⟨w1.heap.size, 0, none⟩ = some (.int .i64 k) := cell_of_row w2 w1.heap.size 0 _ _ _ hr
  have d3 : w2.cell? ⟨w1.heap.size, 3, none⟩ = some (.string (bs s)) := cell_of_row w2 w1.heap.size 3 _ _ _ hr
  have d4 : w2.cell? ⟨w1.heap.size, 4, none⟩ = some (.slice Av args.length c) := cell_of_row w2 w1.heap.size 4 _ _ _ hr
  have hB3 := Lib.hid hB3
  clear hr hB2
  by_cases hk : k = 5
  · subst hk
    by_cases hs : s = g
    · subst hs
      by_cases h1 : 1 ≤ args.length
      · by_cases h8 : args.length < 8
        · have h1' : ¬ args.length < 1 := by omega
          have h8' : ¬ 8 ≤ args.length := by omega
          go_wp2_with fail
          go_ret
          exact ⟨by rw [← he.out]; simp [h1, h8], hB3.out⟩
        · have h8' : 8 ≤ args.length := by omega
          have h1' : ¬ args.length < 1 := by omega
          go_wp2_with fail
          go_ret
          exact ⟨by rw [← he.out]; simp [h8], hB3.out⟩
      · have h0 : args.length < 1 := by omega
        go_wp2_with fail
        go_ret
        exact ⟨by rw [← he.out]; simp [h1], hB3.out⟩
    · have hs' : ((bs s).toList == (bs g).toList) = false := beq_eq_false_iff_ne.2 (fun e => hs (bs_inj (bs_ext_ e)))
      go_wp2_with fail
      go_ret
      exact ⟨by rw [← he.out]; simp [hs], hB3.out⟩
  · have hk' : ¬ (k : Int) = 5 := by omega
    go_wp2_with fail
    go_ret
    exact ⟨by rw [← he.out]; simp [hk], hB3.out⟩
end
end Go.Proofs.YtbeanjaenmpoeaaGreatDoor
