/- Texts joined: what each shows stands ahead of its theorems. -/
import Derived.Test.YtbeanjaenmpoeaaGreatDoorRb1
import Derived.Test.YtbeanjaenmpoeaaGreatDoorRb0
import Derived.Laws.CopyRow
import Derived.Laws.CopyOwn
import Derived.Deep.DeepCutAuto
import Derived.WalkMore
namespace Go.Proofs.YtbeanjaenmpoeaaGreatDoor
section
open Go.RowKit Go.Maps

theorem PutR.of_below {w w1 w' : World} {B : Nat} {A : Ar} {o : Option Tm} {r : Ending} (hb : Below w.heap.size w w1) (h : PutR w1 B A o r w') : PutR w B A o r w' := by
  obtain ⟨A', x, e, ⟨h1, h2, h3, h4, h6⟩, h5⟩ := h
  exact ⟨A', x, e, ⟨h1, h2, h3, (Keeps.of_below hb).trans h4, fun y hy => (h6 y hy).imp id fun hq q e => Nat.le_trans hb.size (hq q e)⟩, h5⟩
theorem iv_flat : ∀ ys : List Int, (ys.map (Value.int .i64)) = (ys.map iv).flatten
  | [] => rfl
  | y :: r => by rw [List.map_cons, List.map_cons, List.flatten_cons, iv_flat r]; rfl
theorem ints_new (w : World) (ys : List Int) (t : TypeId) : Ints (w.alloc (.cells (ys.map (Value.int .i64)).toArray t)) (some ⟨w.heap.size, 0, none⟩) ys.length ys := by
  have h := heap_new w (.cells (ys.map (Value.int .i64)).toArray t)
  have e : (ys.map (Value.int .i64)) = (ys.map iv).flatten := iv_flat ys
  rw [e] at h
  have := Rws.block (k := 1) (zs := ys.map iv) (by simp [iv]) h (by simp)
  rw [List.length_map] at this
  rw [e]
  exact this

theorem number_any (n : Int) (w : World) :
    Calls Tryz.prog 56 #[.int .i64 n] w fun r w' => r = .returned (.bool (decide (numOk n))) ∧ w = w' := by
  by_cases h0 : 0 ≤ n
  · go_enter Tryz.func56, Tryz.ntmps56
    go_wp2
    go_ret
    exact ⟨ret_bool (by unfold numOk; simp [h0]), rfl⟩
  · have hn : ¬ numOk n := fun h => h0 h.1
    rw [decide_eq_false hn]
    go_enter Tryz.func56, Tryz.ntmps56
    go_wp2
    go_ret
    exact ⟨rfl, rfl⟩
theorem text_any (s : List UInt8) (m : Nat) (w : World) (hs : s.length ≤ 4000000000) :
    Calls Tryz.prog 81 #[.string (bs s), .int .i64 m] w fun r w' => r = .returned (.bool (decide (txtOk s m))) ∧ w = w' := by
  have hz := bs_size s
  by_cases h0 : 1 ≤ s.length
  · have h1 : 1 ≤ (bs s).size := by omega
    have h2 : (bs s).size ≤ 4000000000 := by omega
    go_enter Tryz.func81, Tryz.ntmps81
    go_wp2
    go_ret
    exact ⟨ret_bool (by unfold txtOk; simp [h0, hz]), rfl⟩
  · have hn : ¬ txtOk s m := fun h => h0 h.1
    have h1 : (bs s).size = 0 := by omega
    rw [decide_eq_false hn]
    clear h0 hn hz
    go_enter Tryz.func81, Tryz.ntmps81
    go_wp2
    go_ret
    exact ⟨rfl, rfl⟩

section
variable (A : Ar) (B : Nat) (w : World) (H : Arena w B A) (hB : B ≤ w.heap.size) (hN : A.N.length < 100)
include H hB hN
theorem data_any (s : List UInt8) (hs : s.length ≤ 4000000000) :
    Calls Tryz.prog 53 #[.pointer (some ⟨A.g, 0, none⟩), .string (bs s)] w (PutR w B A (dataT s)) := by
  have cP : Calls Tryz.prog 57 #[.pointer (some ⟨A.g, 0, none⟩), .agg #[.int .i64 1, .int .i64 0, .int .i64 0, .string (bs s), .slice none 0 0]] w (PutR w B A (dataT s)) := put_any A B 1 0 0 s [] none 0 0 w H hB hN hs (by omega) Rws.nil_ (dataT_ok s)
  have cP := Lib.hid cP
  clear H
  go_enter Tryz.func53, Tryz.ntmps53
  go_wp2_with (go_at_call 57; refine cP.out.mono ?_; rintro r w1 ⟨A', x, rfl, hG, hM⟩)
  go_ret
  exact ⟨A', x, rfl, hG, hM⟩
theorem nonce_any (p q : Int) :
    Calls Tryz.prog 50 #[.pointer (some ⟨A.g, 0, none⟩), .int .i64 p, .int .i64 q] w (PutR w B A (nonceT p q)) := by
  have cp := Lib.hid (number_any p w)
  have cq := Lib.hid (number_any q w)
  by_cases h : numOk p ∧ numOk q
  · have e : nonceT p q = mkO 2 p.toNat q.toNat [] [] := by unfold nonceT; rw [if_pos h]
    have hok := nonceT_ok p q
    rw [e] at hok ⊢
    obtain ⟨i, rfl⟩ := Int.eq_ofNat_of_zero_le h.1.1
    obtain ⟨j, rfl⟩ := Int.eq_ofNat_of_zero_le h.2.1
    rw [Int.toNat_natCast, Int.toNat_natCast] at hok ⊢
    have cP : Calls Tryz.prog 57 #[.pointer (some ⟨A.g, 0, none⟩), .agg #[.int .i64 2, .int .i64 i, .int .i64 j, .string ⟨#[]⟩, .slice none 0 0]] w (PutR w B A (mkO 2 i j [] [])) := put_any A B 2 i j [] [] none 0 0 w H hB hN (by simp) (by omega) Rws.nil_ hok
    rw [decide_eq_true h.1] at cp
    rw [decide_eq_true h.2] at cq
    have cP := Lib.hid cP
    clear H hok e h
    go_enter Tryz.func50, Tryz.ntmps50
    go_wp2_with (first
      | (go_at_call 56; (with_reducible refine cp.out.mono ?_); rintro r w1 ⟨rfl, rfl⟩)
      | (go_at_call 56; (with_reducible refine cq.out.mono ?_); rintro r w1 ⟨rfl, rfl⟩)
      | (go_at_call 57; refine cP.out.mono ?_; rintro r w1 ⟨A', x, rfl, hG, hM⟩))
    go_ret
    exact ⟨A', x, rfl, hG, hM⟩
  · have e : nonceT p q = none := by unfold nonceT; rw [if_neg h]
    have hR := Lib.hid (PutR.none_ H (Below.refl _ _) e)
    by_cases h1 : numOk p
    · have h2 : ¬ numOk q := fun h2 => h ⟨h1, h2⟩
      rw [decide_eq_true h1] at cp
      rw [decide_eq_false h2] at cq
      clear H e h h1 h2
      go_enter Tryz.func50, Tryz.ntmps50
      go_wp2_with (first
        | (go_at_call 56; (with_reducible refine cp.out.mono ?_); rintro r w1 ⟨rfl, rfl⟩)
        | (go_at_call 56; (with_reducible refine cq.out.mono ?_); rintro r w1 ⟨rfl, rfl⟩))
      go_ret
      exact hR.out
    · rw [decide_eq_false h1] at cp
      clear H e h h1 cq
      go_enter Tryz.func50, Tryz.ntmps50
      go_wp2_with (first
        | (go_at_call 56; (with_reducible refine cp.out.mono ?_); rintro r w1 ⟨rfl, rfl⟩))
      go_ret
      exact hR.out
theorem key_any (p : Int) :
    Calls Tryz.prog 33 #[.pointer (some ⟨A.g, 0, none⟩), .int .i64 p] w (PutR w B A (keyT p)) := by
  have cp := Lib.hid (number_any p w)
  by_cases h : numOk p
  · have e : keyT p = mkO 3 p.toNat 0 [] [] := by unfold keyT; rw [if_pos h]
    have hok := keyT_ok p
    rw [e] at hok ⊢
    obtain ⟨i, rfl⟩ := Int.eq_ofNat_of_zero_le h.1
    rw [Int.toNat_natCast] at hok ⊢
    have cP : Calls Tryz.prog 57 #[.pointer (some ⟨A.g, 0, none⟩), .agg #[.int .i64 3, .int .i64 i, .int .i64 0, .string ⟨#[]⟩, .slice none 0 0]] w (PutR w B A (mkO 3 i 0 [] [])) := put_any A B 3 i 0 [] [] none 0 0 w H hB hN (by simp) (by omega) Rws.nil_ hok
    rw [decide_eq_true h] at cp
    have cP := Lib.hid cP
    clear H hok e h
    go_enter Tryz.func33, Tryz.ntmps33
    go_wp2_with (first
      | (go_at_call 56; (with_reducible refine cp.out.mono ?_); rintro r w1 ⟨rfl, rfl⟩)
      | (go_at_call 57; refine cP.out.mono ?_; rintro r w1 ⟨A', x, rfl, hG, hM⟩))
    go_ret
    exact ⟨A', x, rfl, hG, hM⟩
  · have e : keyT p = none := by unfold keyT; rw [if_neg h]
    have hR := Lib.hid (PutR.none_ H (Below.refl _ _) e)
    rw [decide_eq_false h] at cp
    clear H e h
    go_enter Tryz.func33, Tryz.ntmps33
    go_wp2_with (go_at_call 56; (with_reducible refine cp.out.mono ?_); rintro r w1 ⟨rfl, rfl⟩)
    go_ret
    exact hR.out
theorem base_any (s : List UInt8) (hs : s.length ≤ 4000000000) :
    Calls Tryz.prog 48 #[.pointer (some ⟨A.g, 0, none⟩), .string (bs s)] w (PutR w B A (baseT s)) := by
  have cp : Calls Tryz.prog 81 #[.string (bs s), .int .i64 2100] w fun r w' => r = .returned (.bool (decide (txtOk s 2100))) ∧ w = w' := text_any s 2100 w hs
  have cp := Lib.hid cp
  by_cases h : txtOk s 2100
  · have e : baseT s = mkO 5 0 0 s [] := by unfold baseT; rw [if_pos h]
    have hok := baseT_ok s
    rw [e] at hok ⊢
    have cP : Calls Tryz.prog 57 #[.pointer (some ⟨A.g, 0, none⟩), .agg #[.int .i64 5, .int .i64 0, .int .i64 0, .string (bs s), .slice none 0 0]] w (PutR w B A (mkO 5 0 0 s [])) := put_any A B 5 0 0 s [] none 0 0 w H hB hN hs (by omega) Rws.nil_ hok
    rw [decide_eq_true h] at cp
    have cP := Lib.hid cP
    clear H hok e h
    go_enter Tryz.func48, Tryz.ntmps48
    go_wp2_with (first
      | (go_at_call 81; refine cp.out.mono ?_; rintro r w1 ⟨rfl, rfl⟩)
      | (go_at_call 57; refine cP.out.mono ?_; rintro r w1 ⟨A', x, rfl, hG, hM⟩))
    go_ret
    exact ⟨A', x, rfl, hG, hM⟩
  · have e : baseT s = none := by unfold baseT; rw [if_neg h]
    have hR := Lib.hid (PutR.none_ H (Below.refl _ _) e)
    rw [decide_eq_false h] at cp
    clear H e h
    go_enter Tryz.func48, Tryz.ntmps48
    go_wp2_with (go_at_call 81; refine cp.out.mono ?_; rintro r w1 ⟨rfl, rfl⟩)
    go_ret
    exact hR.out
theorem pub_any (x : Int) :
    Calls Tryz.prog 60 #[.pointer (some ⟨A.g, 0, none⟩), .int .i64 x] w (PutR w B A (pubT (get A.L x))) := by
  have cI : Calls Tryz.prog 76 #[.pointer (some ⟨A.g, 0, none⟩), .int .i64 x, .int .i64 3] w fun r w' => r = .returned (.bool (isB A x 3)) ∧ w = w' := is_any A B x 3 w H
  rw [isB_eq (by decide)] at cI
  by_cases h : kindO (get A.L x) = 3
  · have e : pubT (get A.L x) = mkO 4 0 0 [] [get A.L x] := by unfold pubT; rw [if_pos h]
    have hok := pubT_ok (H.good.okO x)
    rw [e] at hok ⊢
    have hb := below_new w (.cells #[.int .i64 x] 33)
    have cP : Calls Tryz.prog 57 #[.pointer (some ⟨A.g, 0, none⟩), .agg #[.int .i64 4, .int .i64 0, .int .i64 0, .string ⟨#[]⟩, .slice (some ⟨w.heap.size, 0, none⟩) 1 1]] (w.alloc (.cells #[.int .i64 x] 33)) (PutR (w.alloc (.cells #[.int .i64 x] 33)) B A (mkO 4 0 0 [] [get A.L x])) := put_any A B 4 0 0 [] [x] (some ⟨w.heap.size, 0, none⟩) 1 1 _ (H.keep hb) (Nat.le_trans hB hb.size) hN (by simp) (by omega) (ints_new w [x] _) hok
    rw [show (kindO (get A.L x) == 3) = true by simp [h]] at cI
    have cP := Lib.hid cP
    have cI := Lib.hid cI
    have hb := Lib.hid hb
    clear H hok e h
    go_enter Tryz.func60, Tryz.ntmps60
    go_wp2_with (first
      | (go_at_call 76; refine cI.out.mono ?_; rintro r w1 ⟨rfl, rfl⟩)
      | (go_at_call 57; refine cP.out.mono ?_; rintro r w1 h1; obtain ⟨A', x', rfl, hG, hM⟩ := PutR.of_below hb.out h1))
    go_ret
    exact ⟨A', x', rfl, hG, hM⟩
  · have e : pubT (get A.L x) = none := by unfold pubT; rw [if_neg h]
    have hR := Lib.hid (PutR.none_ H (Below.refl _ _) e)
    rw [show (kindO (get A.L x) == 3) = false by simp [h]] at cI
    have cI := Lib.hid cI
    clear H e h
    go_enter Tryz.func60, Tryz.ntmps60
    go_wp2_with (go_at_call 76; refine cI.out.mono ?_; rintro r w1 ⟨rfl, rfl⟩)
    go_ret
    exact hR.out
theorem hash_any (x : Int) :
    Calls Tryz.prog 52 #[.pointer (some ⟨A.g, 0, none⟩), .int .i64 x] w (PutR w B A (hashT (get A.L x))) := by
  have hok := hashT_ok (H.good.okO x)
  unfold hashT at hok ⊢
  have hb := below_new w (.cells #[.int .i64 x] 33)
  have cP : Calls Tryz.prog 57 #[.pointer (some ⟨A.g, 0, none⟩), .agg #[.int .i64 7, .int .i64 0, .int .i64 0, .string ⟨#[]⟩, .slice (some ⟨w.heap.size, 0, none⟩) 1 1]] (w.alloc (.cells #[.int .i64 x] 33)) (PutR (w.alloc (.cells #[.int .i64 x] 33)) B A (mkO 7 0 0 [] [get A.L x])) := put_any A B 7 0 0 [] [x] (some ⟨w.heap.size, 0, none⟩) 1 1 _ (H.keep hb) (Nat.le_trans hB hb.size) hN (by simp) (by omega) (ints_new w [x] _) hok
  have cP := Lib.hid cP
  have hb := Lib.hid hb
  clear H hok
  go_enter Tryz.func52, Tryz.ntmps52
  go_wp2_with (go_at_call 57; refine cP.out.mono ?_; rintro r w1 h1; obtain ⟨A', x', rfl, hG, hM⟩ := PutR.of_below hb.out h1)
  go_ret
  exact ⟨A', x', rfl, hG, hM⟩
theorem list_any (ys : List Int) (Aa : Option Addr) (m c : Nat) (hm : m ≤ 1000) (hY : Ints w Aa m ys) :
    Calls Tryz.prog 42 #[.pointer (some ⟨A.g, 0, none⟩), .slice Aa m c] w (PutR w B A (listT (ys.map (get A.L)))) := by
  have hyl := hY.len
  by_cases h : m ≤ 32
  · have e : listT (ys.map (get A.L)) = mkO 10 0 0 [] (ys.map (get A.L)) := by unfold listT; rw [if_pos (by rw [List.length_map]; omega)]
    have hok : okO (listT (ys.map (get A.L))) := listT_ok (fun o ho => by
      obtain ⟨y, _, rfl⟩ := List.mem_map.1 ho
      exact H.good.okO y)
    rw [e] at hok ⊢
    have cP : Calls Tryz.prog 57 #[.pointer (some ⟨A.g, 0, none⟩), .agg #[.int .i64 10, .int .i64 0, .int .i64 0, .string ⟨#[]⟩, .slice Aa m c]] w (PutR w B A (mkO 10 0 0 [] (ys.map (get A.L)))) := put_any A B 10 0 0 [] ys Aa m c w H hB hN (by simp) (by omega) hY hok
    have cP := Lib.hid cP
    have h' : ¬ 32 < m := by omega
    clear H hok e hY
    go_enter Tryz.func42, Tryz.ntmps42
    go_wp2_with (go_at_call 57; refine cP.out.mono ?_; rintro r w1 ⟨A', x, rfl, hG, hM⟩)
    go_ret
    exact ⟨A', x, rfl, hG, hM⟩
  · have e : listT (ys.map (get A.L)) = none := by unfold listT; rw [if_neg (by rw [List.length_map]; omega)]
    have hR := Lib.hid (PutR.none_ H (Below.refl _ _) e)
    have h' : 32 < m := by omega
    clear H e h hY
    go_enter Tryz.func42, Tryz.ntmps42
    go_wp2_with fail
    go_ret
    exact hR.out
end
def sizeO (o : Option Tm) : Nat := match o with | some t => t.len | none => 0
def kindT (o : Option Tm) : Nat := kindO o
theorem kind_any (A : Ar) (B : Nat) (w : World) (H : Arena w B A) (x : Int) :
    Calls Tryz.prog 43 #[.pointer (some ⟨A.g, 0, none⟩), .int .i64 x] w fun r w' => r = .returned (.int .i64 (kindO (get A.L x))) ∧ w = w' := by
  have cH := has_any A B x w H
  cases hg : get A.L x with
  | none =>
    rw [show hasB A x = false by unfold hasB; rw [hg]; rfl] at cH
    have cH := Lib.hid cH
    clear H hg
    go_enter Tryz.func43, Tryz.ntmps43
    go_wp2_with (go_at_call 58; refine cH.out.mono ?_; rintro r w1 ⟨rfl, rfl⟩)
    go_ret
    exact ⟨rfl, rfl⟩
  | some t =>
    rw [show hasB A x = true by unfold hasB; rw [hg]; rfl] at cH
    have cH := Lib.hid cH
    obtain ⟨j, rfl, hj⟩ := get_some hg
    obtain ⟨nd, hnd, rfl⟩ := Ar.N_at hj
    obtain ⟨An, cn, As, cs, e1, e2, c0, c1, c2, h1, h2⟩ := H.open_
    obtain ⟨b, off, cn', ev, hb, hr, hjl⟩ := H.node hnd
    obtain ⟨f0, f1, f2, f3, f4⟩ := Nd.flds hr
    rw [e1] at ev
    injection ev with ev _ _
    subst ev
    clear H hg hj hnd h1 h2 e1 e2 f1 f2 f3 f4 hr
    go_enter Tryz.func43, Tryz.ntmps43
    go_wp2_with (go_at_call 58; refine cH.out.mono ?_; rintro r w1 ⟨rfl, rfl⟩)
    go_ret
    exact ⟨rfl, rfl⟩
end

section
open Go.RowKit

theorem resV2 {P : Program} {fn : Func} {p u : Tmp} {ty : TypeId} (h : fn.results = #[.cell p ty, .tmp u]) (tmps : Array Value) (w : World) (g : Nat) (t : TypeId) (cs : Array Value) (fr : Nat × Nat) (d : TypeDesc) (v : Value)
    (hp : tmps.getD p undef = .pointer (some ⟨g, 0, none⟩)) (hg : w.heap[g]? = some (.cells cs t fr))
    (hu : P.underlying ty = some d) (hd : (match d with | .struct _ | .array _ _ => true | _ => false) = true) (hi : (P.info? ty).map (·.size) = some cs.size) (hv : tmps.getD u undef = v) :
    (results fn tmps).run P w = .ok (.tuple #[.agg cs, v]) w := by
  rw [results_cell_tmp h, hp, hv]
  simp [asAddr, run_loadVar_row w g t ty cs fr d hg hu hd hi]
theorem hsetRow (w : World) (g : Nat) (old cs : Array Value) (t : TypeId) (fr : Nat × Nat) (h : w.heap[g]? = some (.cells old t fr)) : (w.setRow g cs).heap[g]? = some (.cells cs t fr) := by
  simp only [World.setRow, Array.getElem?_modify, if_true, h, Option.map_some]
end

section
open Go.RowKit Go.Maps

def zNd : List Value := [.int .i64 0, .int .i64 0, .int .i64 0, .string ⟨#[]⟩, .slice none 0 0]
theorem zNd_one : zNd.toArray.all (·.oneCell') = true := by simp [zNd, Value.oneCell']
theorem nd_all {k a b : Nat} {s : List UInt8} {A : Option Addr} {n c : Nat} : (ndC k a b s (.slice A n c)).toArray.all (·.oneCell') = true := by simp [ndC, Value.oneCell']
theorem hsetRow_off {w : World} {g k : Nat} (h : k ≠ g) (cs : Array Value) : (w.setRow g cs).heap[k]? = w.heap[k]? := by
  simp only [World.setRow, Array.getElem?_modify, if_neg (Ne.symm h)]
theorem view_none (A : Ar) (B : Nat) (w : World) (H : Arena w B A) (x : Int) (hg : get A.L x = none) :
    Calls Tryz.prog 34 #[.pointer (some ⟨A.g, 0, none⟩), .int .i64 x] w fun r w' => r = .returned (.tuple #[.agg zNd.toArray, .bool false]) ∧ Below w.heap.size w w' := by
  have hB1 := below_new w (.cells zNd.toArray 68)
  have cH := has_any A B x _ (H.keep hB1)
  rw [show hasB A x = false by unfold hasB; rw [hg]; rfl] at cH
  have cH := Lib.hid cH
  have hz1 := Lib.hid (heap_new w (.cells zNd.toArray 68))
  have hB1 := Lib.hid hB1
  clear H hg
  go_enter Tryz.func34, Tryz.ntmps34
  go_wp2_with (first
    | (go_at_call 58; refine cH.out.mono ?_; rintro r w1 ⟨rfl, rfl⟩)
    | (refine wpList_store_at 68 _ _ rfl rfl w.heap.size zNd.toArray rfl rfl 68 zNd.toArray hz1.out (by kernel_rfl) rfl zNd_one ?_))
  refine bodyPost_ret (resV2 rfl _ _ w.heap.size 68 zNd.toArray (0, 0) _ _ rfl (hsetRow _ _ _ _ _ _ hz1.out) Tryz.underlying68 rfl (by kernel_rfl) rfl) rfl ⟨rfl, below_setRow hB1.out (Nat.le_refl _) _⟩
theorem OwnR.monoB {w : World} {base base' k : Nat} {E : TypeId} {v : Value} {zs : List (List Value)} (h : OwnR w base k E v zs) (hB : base' ≤ base) : OwnR w base' k E v zs := by
  obtain ⟨⟨hl, hh⟩, hz⟩ := h
  refine ⟨⟨hl, ?_⟩, hz⟩
  rcases hh with h0 | ⟨g, cap, cur, hv, hg, r⟩
  · exact .inl h0
  · exact .inr ⟨g, cap, cur, hv, by omega, r⟩
set_option maxRecDepth 100000 in
set_option maxHeartbeats 2000000 in
theorem view_own (A : Ar) (B : Nat) (w : World) (H : Arena w B A) (x : Int) (t : Tm) (hg : get A.L x = some t) :
    Calls Tryz.prog 34 #[.pointer (some ⟨A.g, 0, none⟩), .int .i64 x] w fun r w' => ∃ (Av : Option Addr) (c : Nat) (xs : List Nat), r = .returned (.tuple #[.agg (ndC t.kind t.a t.b t.s (.slice Av t.args.length c)).toArray, .bool true]) ∧ OwnR w' w.heap.size 1 33 (.slice Av t.args.length c) (xs.map idv) ∧ xs.map (fun i => A.L[i]?) = t.args.map some ∧ Below w.heap.size w w' := by
  obtain ⟨j, rfl, hj⟩ := get_some hg
  obtain ⟨nd, hnd, rfl⟩ := Ar.N_at hj
  obtain ⟨Ai, ci, ev, hI, _⟩ := H.ids nd (List.mem_of_getElem? hnd)
  have hargs := Lib.hid (H.args nd (List.mem_of_getElem? hnd))
  have hxl : nd.xs.length = nd.t.args.length := by have := congrArg List.length hargs.out; simpa using this
  have hfew := H.few
  have ha8 : nd.t.args.length ≤ 1000000 := by
    have hok := H.good.ok nd.t (List.mem_of_getElem? (Ar.L_at hnd))
    generalize nd.t = t at hok
    obtain ⟨k, a, b, s, args⟩ := t
    rw [ok_mk] at hok
    have := hok.1
    unfold okHd at this
    simp only [Tm.args]
    omega
  have hB1 := below_new w (.cells zNd.toArray 68)
  have cH := has_any A B j _ (H.keep hB1)
  rw [show hasB A j = true by unfold hasB; rw [hg]; rfl] at cH
  have cH := Lib.hid cH
  have H1 := H.keep hB1
  obtain ⟨An, cn, As, cs, e1, e2, c0, c1, c2, h1, h2⟩ := H1.open_
  obtain ⟨b, off, cn', ev2, hb, hr, hjl⟩ := H1.node hnd
  rw [e1] at ev2
  injection ev2 with ev2 _ _
  subst ev2
  rw [hxl] at hI ev
  obtain ⟨k, a, b', s, v, hrow⟩ : ∃ (k a b' : Nat) (s : List UInt8) (v : Value), k = nd.t.kind ∧ a = nd.t.a ∧ b' = nd.t.b ∧ s = nd.t.s ∧ v = nd.v := ⟨_, _, _, _, _, rfl, rfl, rfl, rfl, rfl⟩
  have hrr : (w.alloc (.cells zNd.toArray 68)).rangeAt b (off + j * 5) (ndC k a b' s v) := by
    obtain ⟨rfl, rfl, rfl, rfl, rfl⟩ := hrow
    exact hr
  obtain ⟨e3, e4, e5, e6, e7⟩ := hrow
  rw [← e7] at ev
  rw [← e3, ← e4, ← e5, ← e6]
  generalize hn : nd.t.args.length = n at *
  clear c1 c2 h1 h2 e1 e2 e3 e4 e5 e6 e7 hr H H1 hg hj hn
  have hBz := hB1.trans (Below.mono (below_new (w.alloc (.cells zNd.toArray 68)) (.cells #[.int .i64 0, .int .i64 0, .int .i64 0, .string ⟨#[]⟩, .slice none 0 0] 68)) hB1.size)
  have hzz := heap_past (heap_new w (.cells zNd.toArray 68)) (.cells #[.int .i64 0, .int .i64 0, .int .i64 0, .string ⟨#[]⟩, .slice none 0 0] 68)
  have hnz := heap_new (w.alloc (.cells zNd.toArray 68)) (.cells #[.int .i64 0, .int .i64 0, .int .i64 0, .string ⟨#[]⟩, .slice none 0 0] 68)
  rw [show (w.alloc (.cells zNd.toArray 68)).heap.size = w.heap.size + 1 by simp] at hnz
  have hnz1 := Lib.hid hnz
  have hB2 := below_setRow hBz (Nat.le_succ _) (g := w.heap.size + 1) (ndC k a b' s v).toArray
  have hn2 := hsetRow _ _ _ (ndC k a b' s v).toArray _ _ hnz
  have hz2 := (hsetRow_off (w := (w.alloc (.cells zNd.toArray 68)).alloc (.cells #[.int .i64 0, .int .i64 0, .int .i64 0, .string ⟨#[]⟩, .slice none 0 0] 68)) (g := w.heap.size + 1) (k := w.heap.size) (by omega) (ndC k a b' s v).toArray).trans hzz
  have cC := Lib.hid (cloneI_any nd.xs Ai n ci _ hxl ha8 (hI.keep hB2))
  have hn2 := Lib.hid hn2
  have hz2 := Lib.hid hz2
  have hB2 := Lib.hid hB2
  have hrr1 := Lib.hid hrr
  clear hBz hzz hnz hB1 hI
  subst ev
  go_enter Tryz.func34, Tryz.ntmps34
  go_upto_region 4 with (first
    | (go_at_call 58; refine cH.out.mono ?_; rintro r w1 ⟨rfl, rfl⟩)
    | (refine wpList_load_at 68 _ rfl rfl b (off + j * 5) rfl (ndC k a b' s (.slice Ai n ci)) _ hrr1.out Tryz.underlying68 rfl (by kernel_rfl) ?_)
    | (refine wpList_store_at 68 _ _ rfl rfl (w.heap.size + 1) (ndC k a b' s (.slice Ai n ci)).toArray rfl rfl 68 zNd.toArray hnz1.out (by kernel_rfl) rfl nd_all ?_))
  generalize ((w.alloc (.cells zNd.toArray 68)).alloc (.cells #[.int .i64 0, .int .i64 0, .int .i64 0, .string ⟨#[]⟩, .slice none 0 0] 68)).setRow (w.heap.size + 1) (ndC k a b' s (.slice Ai n ci)).toArray = W2 at *
  clear c0 hb hjl hrr cH hnz1
  have hc4 : W2.cell? ⟨w.heap.size + 1, 4, none⟩ = some (.slice Ai n ci) := cell_of_row W2 (w.heap.size + 1) 4 _ _ _ hn2.out
  go_upto_region 5 with fail
  refine cC.out.mono ?_
  rintro r W3 ⟨v5, rfl, hO5, hb5⟩
  have hl2 := (Array.getElem?_eq_some_iff.1 hn2.out).1
  have hl1 := (Array.getElem?_eq_some_iff.1 hz2.out).1
  have hn3 := (hb5.block (w.heap.size + 1) hl2).trans hn2.out
  have hz3 := (hb5.block w.heap.size hl1).trans hz2.out
  have hB3 := hB2.out.trans (hb5.mono hB2.out.size)
  have hfz := frozen_of_row W3 (w.heap.size + 1) 4 _ _ hn3
  have hcc : W3.cell? ⟨w.heap.size + 1, 4, none⟩ = some (.slice Ai n ci) := cell_of_row W3 (w.heap.size + 1) 4 _ _ _ hn3
  obtain ⟨A5, c5, e5, _⟩ := hO5.rws
  rw [List.length_map, hxl] at e5
  subst e5
  have hB4 := Lib.hid (hB3.setCell (p := ⟨w.heap.size + 1, 4, none⟩) (Nat.le_succ _) (.slice A5 n c5))
  have hn4 : (W3.setCell ⟨w.heap.size + 1, 4, none⟩ (.slice A5 n c5)).heap[w.heap.size + 1]? = some (.cells (ndC k a b' s (.slice A5 n c5)).toArray 68 (0, 0)) := by
    rw [heap_setCell_same W3 (w.heap.size + 1) 4 _ _ _ hn3]; rfl
  have hz4 := Lib.hid ((heap_setCell_other W3 ⟨w.heap.size + 1, 4, none⟩ w.heap.size (.slice A5 n c5) (by simp)).trans hz3)
  have hr4 := Lib.hid (rangeAt_list hn4)
  have hO4 := Lib.hid (hO5.keepF (F := fun q => some (w.heap.size + 1) = some q) (Keeps.of_grown (grown_set W3 ⟨w.heap.size + 1, 4, none⟩ (.slice A5 n c5)) fun q hq => hq) (fun q hq hf => by have := hO5.1.lt q hq; have := Option.some.inj hf; omega))
  clear hn3 hz3 hB3 hO5 hn4 hc4 hb5
  go_upto_region 5 with fail
  generalize W3.setCell ⟨w.heap.size + 1, 4, none⟩ (.slice A5 n c5) = W4 at *
  have hO6 := Lib.hid (hO4.out.keepF (w' := W4.setRow w.heap.size (ndC k a b' s (.slice A5 n c5)).toArray) (F := fun q => q = w.heap.size) ⟨rfl, rfl, rfl, by simp [World.setRow], fun q _ hq => hsetRow_off hq _⟩ (fun q hq hf => by have := hO4.out.1.lt q hq; omega))
  go_wp2_with (first
    | (refine wpList_load_at 68 _ rfl rfl (w.heap.size + 1) 0 rfl (ndC k a b' s (.slice A5 n c5)) _ hr4.out Tryz.underlying68 rfl (by kernel_rfl) ?_)
    | (refine wpList_store_at 68 _ _ rfl rfl w.heap.size (ndC k a b' s (.slice A5 n c5)).toArray rfl rfl 68 zNd.toArray hz4.out (by kernel_rfl) rfl nd_all ?_))
  have hR7 := OwnR.monoB hO6.out hB2.out.size
  refine bodyPost_ret (resV2 rfl _ _ w.heap.size 68 (ndC k a b' s (.slice A5 n c5)).toArray (0, 0) _ _ rfl (hsetRow _ _ _ _ _ _ hz4.out) Tryz.underlying68 rfl (by kernel_rfl) rfl) rfl ⟨A5, c5, nd.xs, rfl, hR7, hargs.out, below_setRow hB4.out (Nat.le_refl _) _⟩
theorem view_some (A : Ar) (B : Nat) (w : World) (H : Arena w B A) (x : Int) (t : Tm) (hg : get A.L x = some t) :
    Calls Tryz.prog 34 #[.pointer (some ⟨A.g, 0, none⟩), .int .i64 x] w fun r w' => ∃ (Av : Option Addr) (c : Nat) (xs : List Nat), r = .returned (.tuple #[.agg (ndC t.kind t.a t.b t.s (.slice Av t.args.length c)).toArray, .bool true]) ∧ Rws w' 1 Av t.args.length (xs.map idv) ∧ xs.map (fun i => A.L[i]?) = t.args.map some ∧ Below w.heap.size w w' := by
  refine (view_own A B w H x t hg).mono ?_
  rintro r w' ⟨Av, c, xs, rfl, hO, hx, hb⟩
  obtain ⟨A7, c7, e7, hR7⟩ := hO.rws
  have hl : xs.length = t.args.length := by have := congrArg List.length hx; simpa using this
  rw [List.length_map, hl] at e7 hR7
  injection e7 with e7 _ e8
  subst e7
  exact ⟨Av, c, xs, rfl, hR7, hx, hb⟩
end

section
open Go.RowKit

theorem ofNat_ltu {x y : Nat} (hx : x < 256) (hy : y < 256) : (UInt8.ofNat x < UInt8.ofNat y) ↔ x < y := by
  rw [UInt8.lt_iff_toNat_lt]; simp [Nat.mod_eq_of_lt hx, Nat.mod_eq_of_lt hy]
theorem ofNat_bequ {x y : Nat} (hx : x < 256) (hy : y < 256) : (UInt8.ofNat x == UInt8.ofNat y) = (x == y) := by
  rw [Bool.eq_iff_iff]; simp only [beq_iff_eq]
  constructor
  · intro h
    have := congrArg UInt8.toNat h
    simpa [Nat.mod_eq_of_lt hx, Nat.mod_eq_of_lt hy] using this
  · rintro rfl; rfl
theorem u32_digits (x : Nat) (hx : x < 4294967296) : ∃ a b c d : Nat, a < 256 ∧ b < 256 ∧ c < 256 ∧ d < 256 ∧ x = 16777216 * a + 65536 * b + 256 * c + d ∧ u32 x = [UInt8.ofNat a, UInt8.ofNat b, UInt8.ofNat c, UInt8.ofNat d] :=
  ⟨x / 16777216 % 256, x / 65536 % 256, x / 256 % 256, x % 256, by omega, by omega, by omega, by omega, by omega, rfl⟩
theorem less_u32 {x y : Nat} (hx : x < 4294967296) (hy : y < 4294967296) (r r' : List UInt8) : Op.bytesLess (u32 x ++ r) (u32 y ++ r') = (decide (x < y) || (x == y && Op.bytesLess r r')) := by
  obtain ⟨a, b, c, d, h1, h2, h3, h4, e, eu⟩ := u32_digits x hx
  obtain ⟨a', b', c', d', k1, k2, k3, k4, e', eu'⟩ := u32_digits y hy
  rw [eu, eu']
  simp only [List.cons_append, List.nil_append, Op.bytesLess]
  rw [ofNat_bequ h1 k1, ofNat_bequ h2 k2, ofNat_bequ h3 k3, ofNat_bequ h4 k4]
  simp only [ofNat_ltu h1 k1, ofNat_ltu h2 k2, ofNat_ltu h3 k3, ofNat_ltu h4 k4]
  generalize Op.bytesLess r r' = z
  clear eu eu' hx hy
  rw [Bool.eq_iff_iff]
  simp only [Bool.or_eq_true, Bool.and_eq_true, decide_eq_true_eq, beq_iff_eq]
  cases z <;> simp <;> omega
theorem nonce_enc {t : Tm} (h : t.ok) (hk : t.kind = 2) : t.enc = UInt8.ofNat 242 :: (u32 t.a ++ (u32 t.b ++ [])) ∧ t.a < 4294967296 ∧ t.b < 4294967296 := by
  obtain ⟨k, a, b, s, args⟩ := t
  have hk : k = 2 := hk
  subst hk
  rw [ok_mk] at h
  have h1 := h.1
  unfold okHd at h1
  simp only [reduceCtorEq, false_and, or_false, false_or, true_and, Nat.reduceEqDiff] at h1
  obtain rfl := List.eq_nil_of_length_eq_zero h1.2.2.2
  rw [enc_mk]
  simp only [Tm.a, Tm.b]
  exact ⟨by simp [hd, encs], by omega, by omega⟩
/-- A nonce's text comes ahead of another one's, as they stand in a share. -/
theorem nonce_less {t u : Tm} (ht : t.ok) (hu : u.ok) (kt : t.kind = 2) (ku : u.kind = 2) : Op.bytesLess t.enc u.enc = decide (¬ nle u t) := by
  obtain ⟨e1, a1, a2⟩ := nonce_enc ht kt
  obtain ⟨e2, b1, b2⟩ := nonce_enc hu ku
  rw [e1, e2]
  simp only [Op.bytesLess]
  rw [less_u32 a1 b1, less_u32 a2 b2]
  rw [Bool.eq_iff_iff]
  simp only [Op.bytesLess, Bool.or_eq_true, Bool.and_eq_true, decide_eq_true_eq, beq_iff_eq, UInt8.lt_irrefl, false_or, true_and]
  unfold nle
  simp
  omega
theorem bs_toList (l : List UInt8) : (bs l).toList = l := by rw [ByteArray.toList_eq]; rfl
/-- A node's cells, as the reference has them. -/
def rnC (k a b : Int) (s : List UInt8) (v : Value) : List Value := [.int .i64 k, .int .i64 a, .int .i64 b, .string (bs s), v]
theorem rn_all {k a b : Int} {s : List UInt8} {A : Option Addr} {n c : Nat} : (rnC k a b s (.slice A n c)).toArray.all (·.oneCell') = true := by simp [rnC, Value.oneCell']
set_option maxRecDepth 100000 in
set_option maxHeartbeats 2000000 in
theorem rRight_any (k a b : Nat) (s : List UInt8) (args : List Tm) (hok : (Tm.mk k a b s args).ok) (A : Option Addr) (c : Nat) (w : World) (hA : Strs w A args.length (args.map fun u => bs u.enc)) (hsz : ∀ u ∈ args, u.enc.length ≤ 4000000000) :
    Calls Tryz.prog 102 #[.agg (rnC k a b s (.slice A args.length c)).toArray] w fun r w' => r = .returned (.bool true) ∧ Below w.heap.size w w' := by
  have hB := below_new w (.cells (rnC k a b s (.slice A args.length c)).toArray 91)
  have hn := heap_new w (.cells (rnC k a b s (.slice A args.length c)).toArray 91)
  have d0 := cell_of_row _ w.heap.size 0 _ _ _ hn
  have d1 := cell_of_row _ w.heap.size 1 _ _ _ hn
  have d2 := cell_of_row _ w.heap.size 2 _ _ _ hn
  have d3 := cell_of_row _ w.heap.size 3 _ _ _ hn
  have d4 := cell_of_row _ w.heap.size 4 _ _ _ hn
  have hA2 := Lib.hid (hA.keep hB)
  have hn1 := Lib.hid hn
  have hBh := Lib.hid hB
  clear hB
  have hokm := ok_mk.1 hok
  have hk1 := hokm.1
  have hka := hokm.2.1
  have hko := hokm.2.2
  unfold okHd at hk1
  have cK : ∀ u ∈ args, ∀ W, Calls Tryz.prog 46 #[.string (bs u.enc)] W fun r w' => r = .returned (.int .i64 u.kind) ∧ W = w' := fun u hu W => rKind_any (some u) (fun t ht => by obtain rfl := Option.some.inj ht; exact hko u hu) (hsz u hu) W
  clear hok hokm hsz
  unfold rnC at hn1 d0 d1 d2 d3 d4 hBh hA2 ⊢
  clear hn hA
  go_enter Tryz.func102, Tryz.ntmps102
  go_upto_region 1 with fail
  generalize (w.alloc (.cells [Value.int .i64 k, .int .i64 a, .int .i64 b, .string (bs s), .slice A args.length c].toArray 91)) = w1 at *
  rcases hk1 with hk1 | hk1 | hk1 | hk1 | hk1 | hk1 | hk1 | hk1 | hk1 | hk1
  · obtain ⟨rfl, -⟩ := hk1
    clear cK hko hka hA2 hn1
    go_wp2_with fail
    go_ret
    exact ⟨rfl, hBh.out⟩
  · obtain ⟨rfl, ha, hb, -⟩ := hk1
    have ca := fun W => rNumber_any a W
    have cb := fun W => rNumber_any b W
    rw [decide_eq_true (by unfold numOk; omega)] at ca cb
    have ca := Lib.hid ca
    have cb := Lib.hid cb
    clear cK hko hka hA2 hn1
    go_wp2_with (first
      | (go_at_call 83; (with_reducible refine (ca.out _).mono ?_); rintro r w1 ⟨rfl, rfl⟩)
      | (go_at_call 83; (with_reducible refine (cb.out _).mono ?_); rintro r w1 ⟨rfl, rfl⟩))
    go_ret
    exact ⟨rfl, hBh.out⟩
  · obtain ⟨rfl, ha, rfl, -⟩ := hk1
    have ca := fun W => rNumber_any a W
    have cb : ∀ W, Calls Tryz.prog 83 #[.int .i64 ((0 : Nat) : Int)] W fun r w' => r = .returned (.bool (decide (numOk ((0 : Nat) : Int)))) ∧ W = w' := fun W => rNumber_any ((0 : Nat) : Int) W
    rw [decide_eq_true (by unfold numOk; omega)] at ca cb
    have ca := Lib.hid ca
    have cb := Lib.hid cb
    clear cK hko hka hA2 hn1
    go_wp2_with (first
      | (go_at_call 83; (with_reducible refine (ca.out _).mono ?_); rintro r w1 ⟨rfl, rfl⟩)
      | (go_at_call 83; refine (cb.out _).mono ?_; rintro r w1 ⟨rfl, rfl⟩))
    go_ret
    exact ⟨rfl, hBh.out⟩
  · obtain ⟨rfl, rfl, rfl, rfl, hm⟩ := hk1
    obtain ⟨u, rfl⟩ := List.length_eq_one_iff.1 hm
    have hk3 := hka.1 rfl u (by simp)
    have cu := cK u (by simp)
    rw [hk3] at cu
    obtain ⟨bb, off, z, rfl, hlt, hz, hcell⟩ := hA2.out.at_ (j := 0) (by simp)
    have hz : bs u.enc = z := Option.some.inj hz
    subst hz
    rw [Nat.add_zero] at hcell
    simp only [List.length_cons, List.length_nil, Nat.zero_add, Nat.reduceAdd] at d4 ⊢
    have cu := Lib.hid cu
    clear cK hko hka hA2 hn1 hk3
    go_wp2_with (go_at_call 46; refine (cu.out _).mono ?_; rintro r w1 ⟨rfl, rfl⟩)
    go_ret
    exact ⟨rfl, hBh.out⟩
  · obtain ⟨rfl, rfl, rfl, hs1, hs2, hm⟩ := hk1
    obtain ⟨hk5, hsr⟩ := hka.2.1 rfl
    have cK2 := Lib.hid (fun u (hu : u ∈ args) W => (show Calls Tryz.prog 46 #[.string (bs u.enc)] W fun r w' => r = .returned (.int .i64 2) ∧ W = w' from by have := cK u hu W; rwa [hk5 u hu] at this))
    have hless : ∀ (j : Nat) u v, args[j + 1]? = some u → args[j]? = some v → Op.bytesLess (bs u.enc).toList (bs v.enc).toList = false := by
      intro j u v hu hv
      have mu := List.mem_of_getElem? hu
      have mv := List.mem_of_getElem? hv
      rw [bs_toList, bs_toList, nonce_less (hko u mu) (hko v mv) (hk5 u mu) (hk5 v mv)]
      have h1 := List.getElem?_eq_some_iff.1 hu
      have h2 := List.getElem?_eq_some_iff.1 hv
      have := (List.pairwise_iff_getElem.1 hsr) j (j + 1) h2.1 h1.1 (by omega)
      rw [h1.2, h2.2] at this
      simp [this]
    have hless := Lib.hid hless
    have cT : ∀ W, Calls Tryz.prog 82 #[.string (bs s), .int .i64 2100] W fun r w' => r = .returned (.bool (decide (txtOk s 2100))) ∧ W = w' := fun W => rText_any s 2100 W (by omega)
    rw [decide_eq_true (show txtOk s 2100 from ⟨hs1, hs2⟩)] at cT
    have cT := Lib.hid cT
    have hwl := (Array.getElem?_eq_some_iff.1 hn1.out).1
    have hn2 := Lib.hid (fun W (hb : Below w1.heap.size w1 W) => (hb.block w.heap.size hwl).trans hn1.out)
    have hA3 := Lib.hid (fun W (hb : Below w1.heap.size w1 W) => hA2.out.keep hb)
    generalize hna : args.length = n at *
    have hna := Lib.hid hna
    clear cK hko hka hA2 hk5 hsr hn1 d1 d2 d3
    go_wp2_with fail
    go_loopw [3] (fun i wr => ∃ j : Nat, j ≤ n ∧ i = .int .i64 j ∧ Hid (Below w1.heap.size w1 wr)) (fun i _ => n - (intOf i).toNat)
    case atStart => exact ⟨0, by omega, rfl, Lib.hid (Below.refl _ _)⟩
    case round =>
      clear d0 d4
      obtain ⟨j, hj, rfl, hBr⟩ := hrel
      have hrow := hn2.out wr hBr.out
      have d4 : wr.cell? ⟨w.heap.size, 4, none⟩ = some (.slice A n c) := cell_of_row wr _ 4 _ _ _ hrow
      have d3 : wr.cell? ⟨w.heap.size, 3, none⟩ = some (.string (bs s)) := cell_of_row wr _ 3 _ _ _ hrow
      clear hrow
      by_cases hlt : j < n
      · obtain ⟨bb, off, z, rfl, hltb, hz, hcell⟩ := (hA3.out wr hBr.out).at_ hlt
        rw [List.getElem?_map] at hz
        obtain ⟨u, hu⟩ : ∃ u, args[j]? = some u := ⟨args[j]'(by have := hna.out; omega), List.getElem?_eq_getElem (by have := hna.out; omega)⟩
        rw [hu] at hz
        have hz : bs u.enc = z := Option.some.inj hz
        subst hz
        have cu := Lib.hid (cK2.out u (List.mem_of_getElem? hu))
        have i1 : (0 : Int) ≤ (j : Int) := by omega
        have i2 : (j : Int) < (n : Int) := by omega
        by_cases h0 : j = 0
        · subst h0
          rw [Nat.add_zero] at hcell
          clear hu
          go_upto_region 11 with fail
          go_quiet ((go_at_call 46; exact Calls.quiet_of_same ((cu.out _).mono (fun e w' h => ⟨h.1, h.2.symm⟩))))
          have hBq := Lib.hid (hBr.out.trans ((drewN_below (w := wr) nq).mono hBr.out.size))
          generalize wr.drewN nq = w5 at hBq ⊢
          clear d3 d4 hcell
          go_wp2_with fail
          go_roundw
          case rel => exact ⟨1, by omega, by go_num, hBq⟩
          case measure => simp [intOf]; omega
        · obtain ⟨m, rfl⟩ : ∃ m, j = m + 1 := ⟨j - 1, by omega⟩
          obtain ⟨bb2, off2, z2, e2, hltb2, hz2, hcell2⟩ := (hA3.out wr hBr.out).at_ (j := m) (by omega)
          injection e2 with e2
          injection e2 with e3 e4 _
          subst e3 e4
          rw [List.getElem?_map] at hz2
          obtain ⟨v, hv⟩ : ∃ v, args[m]? = some v := ⟨args[m]'(by have := hna.out; omega), List.getElem?_eq_getElem (by have := hna.out; omega)⟩
          rw [hv] at hz2
          have hz2 : bs v.enc = z2 := Option.some.inj hz2
          subst hz2
          have hls := hless.out m u v hu hv
          obtain ⟨J, hJ⟩ : ∃ J, J = m + 1 := ⟨_, rfl⟩
          rw [← hJ] at hcell hlt hj i1 i2 ⊢
          have g1 : (J : Int) - 1 = (m : Int) := by omega
          have g2 : IntKind.i64.wrap (m : Int) = (m : Int) := by rw [IntKind.wrap_i64]; omega
          have g3 : (0 : Int) ≤ (m : Int) := by omega
          have g4 : (m : Int) < (n : Int) := by omega
          have g5 : decide ((0 : Int) < (J : Int)) = true := decide_eq_true (by omega)
          have g6 : decide (0 < J) = true := decide_eq_true (by omega)
          have hJh := Lib.hid hJ
          clear hu hv h0 hJ
          go_upto_region 11 with fail
          go_quiet ((go_at_call 46; exact Calls.quiet_of_same ((cu.out _).mono (fun e w' h => ⟨h.1, h.2.symm⟩))))
          have hBq := Lib.hid (hBr.out.trans ((drewN_below (w := wr) nq).mono hBr.out.size))
          generalize wr.drewN nq = w5 at hBq ⊢
          clear d3 d4 hcell hcell2 hls g1 g2 g5 g6
          go_wp2_with fail
          go_roundw
          case rel => exact ⟨J + 1, by omega, by go_num, hBq⟩
          case measure => simp [intOf]; omega
      · go_wp2_with (go_at_call 82; refine (cT.out _).mono ?_; rintro r w6 ⟨rfl, rfl⟩)
        go_ret
        exact ⟨rfl, hBh.out.trans (hBr.out.mono hBh.out.size)⟩
  · obtain ⟨rfl, rfl, rfl, hs1, hs2, hm⟩ := hk1
    obtain ⟨u, v, rfl⟩ : ∃ u v, args = [u, v] := by
      match args, hm with
      | [u, v], _ => exact ⟨u, v, rfl⟩
    have hk3 := hka.2.2 rfl u rfl
    have cu := cK u (by simp)
    rw [hk3] at cu
    have cT : ∀ W, Calls Tryz.prog 82 #[.string (bs s), .int .i64 64] W fun r w' => r = .returned (.bool (decide (txtOk s 64))) ∧ W = w' := fun W => rText_any s 64 W (by omega)
    rw [decide_eq_true (show txtOk s 64 from ⟨hs1, hs2⟩)] at cT
    obtain ⟨bb, off, z, rfl, hlt, hz, hcell⟩ := hA2.out.at_ (j := 0) (by simp)
    have hz : bs u.enc = z := Option.some.inj hz
    subst hz
    rw [Nat.add_zero] at hcell
    simp only [List.length_cons, List.length_nil, Nat.zero_add, Nat.reduceAdd] at d4 ⊢
    have cu := Lib.hid cu
    have cT := Lib.hid cT
    clear cK hko hka hA2 hn1 hk3
    go_wp2_with (first
      | (go_at_call 82; refine (cT.out _).mono ?_; rintro r w1 ⟨rfl, rfl⟩)
      | (go_at_call 46; refine (cu.out _).mono ?_; rintro r w1 ⟨rfl, rfl⟩))
    go_ret
    exact ⟨rfl, hBh.out⟩
  · obtain ⟨rfl, -⟩ := hk1
    clear cK hko hka hA2 hn1
    go_wp2_with fail
    go_ret
    exact ⟨rfl, hBh.out⟩
  · obtain ⟨rfl, -⟩ := hk1
    clear cK hko hka hA2 hn1
    go_wp2_with fail
    go_ret
    exact ⟨rfl, hBh.out⟩
  · obtain ⟨rfl, -⟩ := hk1
    clear cK hko hka hA2 hn1
    go_wp2_with fail
    go_ret
    exact ⟨rfl, hBh.out⟩
  · obtain ⟨rfl, -⟩ := hk1
    clear cK hko hka hA2 hn1
    go_wp2_with fail
    go_ret
    exact ⟨rfl, hBh.out⟩
end

section
open Go

theorem inv_start {n : Nat} {P : Nat → Prop} (h : ∀ k, P (k + n)) : ∀ q, (Array.replicate n false).getD q true = true → P q := by
  intro q hq
  have hq : n ≤ q := by
    rcases Nat.lt_or_ge q n with h1 | h1
    · simp [Array.getD_eq_getD_getElem?, h1] at hq
    · exact h1
  obtain ⟨k, rfl⟩ : ∃ k, q = k + n := ⟨q - n, by omega⟩
  exact h k
theorem inv_none {n i : Nat} (h : i < n) : (Array.replicate n false).getD i true = false := by simp [Array.getD_eq_getD_getElem?, h]
theorem inv_not {n i : Nat} (h : i < n) : ¬ ((Array.replicate n false).getD i true = true) := by rw [inv_none h]; decide
theorem inv_step {P : Nat → Value → Prop} {L : Nat → Bool} {xs : List Value} {i : Nat} {x' : Value} (h : ∀ q, L q = true → P q (xs.getD q undef)) (hn : P i x') (hi : i < xs.length) :
    ∀ q, (q == i || L q) = true → P q ((xs.set i x').getD q undef) := by
  intro q hq
  by_cases e : q = i
  · subst e
    rw [List.getD_eq_getElem?_getD, List.getElem?_set_self hi]
    exact hn
  · have hL : L q = true := by simpa [e] using hq
    rw [List.getD_eq_getElem?_getD, List.getElem?_set_ne (Ne.symm e), ← List.getD_eq_getElem?_getD]
    exact h q hL
theorem inv_pass {P : Nat → Value → Prop} {L : Nat → Bool} {xs : List Value} {i : Nat} (h : ∀ q, L q = true → P q (xs.getD q undef)) (hn : ∀ x, P i x) : ∀ q, (q == i || L q) = true → P q (xs.getD q undef) := by
  intro q hq
  by_cases e : q = i
  · subst e; exact hn _
  · exact h q (by simpa [e] using hq)
end
end Go.Proofs.YtbeanjaenmpoeaaGreatDoor
