/- The reference's recipes: at, more. (printed by wip/gen_rrb.py out of rrb_head.txt) -/
import Derived.Test.YtphnakdgpilcmaaGreatDoorHb13
import Derived.Test.YtphnakdgpilcmaaGreatDoorHb5
import Derived.Test.YtphnakdgpilcmaaGreatDoorHb4
namespace Go.Proofs.YtphnakdgpilcmaaGreatDoor
open Go.RowKit Go.Maps

theorem rat14_any {A : Option Addr} {n c : Nat} {os : List (Option Tm)} (i : Int) (w : World) (hn : n ≤ 2000000000000) (h : TxS w A n os) :
    Calls Tryz.prog 84 #[.slice A n c, .int .i64 i] w fun r w' => r = .returned (.string (bs (encO (pkO os i)))) ∧ w = w' := by
  have hll : os.length = n := by have := Strs.len h; simpa using this
  by_cases h0 : i < 0
  · have e1 : pkO os i = none := if_pos h0
    rw [e1]
    clear hll h
    go_enter Tryz.func84, Tryz.ntmps84
    go_wp2_with fail
    go_ret
    exact ⟨rfl, rfl⟩
  · obtain ⟨k, rfl⟩ := Int.eq_ofNat_of_zero_le (Int.not_lt.1 h0)
    by_cases hk : k < n
    · obtain ⟨b, off, x, rfl, hb, hx, hc⟩ := Strs.at_ h hk
      have e1 : bs (encO (pkO os k)) = x := by
        unfold pkO
        rw [if_neg h0, Int.toNat_natCast]
        rw [List.getElem?_map] at hx
        cases ho : os[k]? with
        | none => rw [ho] at hx; cases hx
        | some o => rw [ho] at hx; exact Option.some.inj hx
      rw [e1]
      have hki : ¬ ((n : Int) ≤ (k : Int)) := by omega
      clear hll hx h e1
      go_enter Tryz.func84, Tryz.ntmps84
      go_wp2_with fail
      go_ret
      exact ⟨rfl, rfl⟩
    · have e1 : pkO os k = none := by unfold pkO; rw [if_neg h0, Int.toNat_natCast, List.getElem?_eq_none (by omega)]; rfl
      rw [e1]
      have hki : ((n : Int) ≤ (k : Int)) := by omega
      clear hll h e1
      go_enter Tryz.func84, Tryz.ntmps84
      go_wp2_with fail
      go_ret
      exact ⟨rfl, rfl⟩
section
variable {known sent os : List (Option Tm)} {a b e : Int} {s : List UInt8}
theorem step9 : stepT known sent os ⟨9, a, b, e, s⟩ = if s = [] then none else deriveT (ltr s).toNat (pkO os a) (pkO os b) (pkO os e) := by simp [stepT, sel]
theorem step10 : stepT known sent os ⟨10, a, b, e, s⟩ = if 0 ≤ e ∧ e ≤ 4294967295 then sealT (pkO os a) e.toNat (pkO os b) else none := by simp [stepT, sel]
theorem step11 : stepT known sent os ⟨11, a, b, e, s⟩ = openT (pkO os a) (pkO os b) := by simp [stepT, sel]
theorem step13 : stepT known sent os ⟨13, a, b, e, s⟩ = addT (pkO os a) (pkO os b) := by simp [stepT, sel]
theorem step14 : stepT known sent os ⟨14, a, b, e, s⟩ = atT (pkO os a) b := by simp [stepT, sel]
end
theorem seal_args {t : Tm} (hok : t.ok) (h9 : t.kind = 9) : ∃ u v, t.args = [u, v] ∧ u.ok ∧ v.ok := by
  obtain ⟨k, a, b, s, args⟩ := t
  have h9 : k = 9 := h9
  have ho := ok_mk.1 hok
  have ho1 := ho.1
  subst h9
  simp only [okHd, reduceCtorEq, false_and, or_false, false_or, true_and, Nat.reduceEqDiff] at ho1
  have hl : args.length = 2 := by omega
  match args, hl, ho with
  | [u, v], _, ho => exact ⟨u, v, rfl, ho.2.2 u (by simp), ho.2.2 v (by simp)⟩
open Classical in
theorem openT_seal {t u v : Tm} {q : Option Tm} (h9 : t.kind = 9) (ha : t.args = [u, v]) : openT (some t) q = if some u = q then some v else none := by
  unfold openT
  simp only [h9, ha, List.getElem?_cons_zero, List.getElem?_cons_succ, true_and]
theorem openT_not {p q : Option Tm} (h : ¬ kindO p = 9) : openT p q = none := by
  unfold openT
  cases p with
  | none => rfl
  | some t => dsimp only; rw [if_neg (fun hh => h hh.1)]
theorem step_else {known sent os : List (Option Tm)} {k a b e : Int} {s : List UInt8} (hk : k ≠ 0 ∧ k ≠ 1 ∧ k ≠ 2 ∧ k ≠ 3 ∧ k ≠ 4 ∧ k ≠ 5 ∧ k ≠ 6 ∧ k ≠ 7 ∧ k ≠ 8 ∧ k ≠ 12) (h9 : ¬ k = 9) (h10 : ¬ k = 10) (h11 : ¬ k = 11) (h13 : ¬ k = 13) (h14 : ¬ k = 14) : stepT known sent os ⟨k, a, b, e, s⟩ = none := by
  refine sel_none fun p hp => ?_
  simp only [List.mem_cons, List.not_mem_nil, or_false] at hp
  rcases hp with rfl | rfl | rfl | rfl | rfl | rfl | rfl | rfl | rfl | rfl | rfl | rfl | rfl | rfl | rfl <;> simp <;> omega
/-- The struct of a step, in a new block. -/
structure MkBox (q : Nat) (k a b e : Int) (y : ByteArray) (W : World) : Prop where
  c0 : W.cell? ⟨q, 0, none⟩ = some (.int .i64 k)
  c1 : W.cell? ⟨q, 1, none⟩ = some (.int .i64 a)
  c2 : W.cell? ⟨q, 2, none⟩ = some (.int .i64 b)
  c3 : W.cell? ⟨q, 3, none⟩ = some (.int .i64 e)
  c4 : W.cell? ⟨q, 4, none⟩ = some (.string y)
theorem mk_box {q : Nat} {k a b e : Int} {s : List UInt8} {W : World} (h : W.heap[q]? = some (.cells (mkRow k a b e s).toArray 79 (0, 0))) :
    W.cell? ⟨q, 0, none⟩ = some (.int .i64 k) ∧ W.cell? ⟨q, 1, none⟩ = some (.int .i64 a) ∧ W.cell? ⟨q, 2, none⟩ = some (.int .i64 b) ∧ W.cell? ⟨q, 3, none⟩ = some (.int .i64 e) ∧ W.cell? ⟨q, 4, none⟩ = some (.string (bs s)) :=
  ⟨cell_of_row W q 0 _ _ _ h, cell_of_row W q 1 _ _ _ h, cell_of_row W q 2 _ _ _ h, cell_of_row W q 3 _ _ _ h, cell_of_row W q 4 _ _ _ h⟩
/-- What the texts of a list are: those of terms that may be, and not too long. -/
def Fine (os : List (Option Tm)) : Prop := ∀ o ∈ os, okO o ∧ (encO o).length ≤ 131072
theorem Fine.pick {os : List (Option Tm)} (h : Fine os) (i : Int) : okO (pkO os i) ∧ (encO (pkO os i)).length ≤ 131072 := pkO_all (P := fun o => okO o ∧ (encO o).length ≤ 131072) i ⟨okO_none, by simp [encO]⟩ h
theorem encs_mem {u : Tm} : ∀ {l : List Tm}, u ∈ l → u.enc.length ≤ (encs l).length
  | [], h => by cases h
  | x :: r, h => by
    rw [encs, List.length_append]
    rcases List.mem_cons.1 h with rfl | h
    · omega
    · have := encs_mem h; omega
theorem list_fine {t : Tm} (hok : t.ok) (h10 : t.kind = 10) (hl : t.enc.length ≤ 131072) : t.args.length ≤ 32 ∧ Fine (t.args.map some) := by
  obtain ⟨k, a, b, s, args⟩ := t
  have h10 : k = 10 := h10
  have ho := ok_mk.1 hok
  have ho1 := ho.1
  subst h10
  simp only [okHd, reduceCtorEq, false_and, or_false, false_or, true_and, Nat.reduceEqDiff] at ho1
  refine ⟨ho1.2.2.2, fun o h => ?_⟩
  obtain ⟨u, hu, rfl⟩ := List.mem_map.1 h
  refine ⟨fun x hx => by obtain rfl := Option.some.inj hx; exact ho.2.2 _ hu, ?_⟩
  rw [enc_mk] at hl
  have h2 : (encs args).length ≤ 131072 := by
    simp only [List.length_cons, List.length_append] at hl
    omega
  have h3 : u.enc.length ≤ (encs args).length := encs_mem hu
  exact Nat.le_trans h3 h2
theorem atT_pk {t : Tm} {i : Int} (h : t.kind = 10) : atT (some t) i = pkO (t.args.map some) i := by
  unfold atT pkO
  dsimp only
  by_cases hi : i < 0
  · rw [if_pos hi, if_neg (by omega)]
  · rw [if_neg hi, if_pos ⟨h, by omega⟩, List.getElem?_map]
    cases t.args[i.toNat]? <;> rfl
theorem atT_not {p : Option Tm} {i : Int} (h : ¬ kindO p = 10) : atT p i = none := by
  unfold atT
  cases p with
  | none => rfl
  | some t => dsimp only; rw [if_neg (fun hh => h hh.1)]
theorem addT_not {p q : Option Tm} (h : ¬ kindO p = 10) : addT p q = none := by
  unfold addT
  cases p with
  | none => rfl
  | some t => dsimp only; rw [if_neg (show ¬ t.kind = 10 from h)]
def dsRr7 : List (Option Nat) := [some 25, some 26, some 27, some 28, some 29, some 30, some 31, some 32, some 33, some 34, some 4]
def tbRr7 : List (List Nat) := [[], [0], [1], [], [], [], [], [6], [5, 7], [2, 3, 4, 8], [9]]
def vsRr7 (p : Nat) (A : Option Addr) (n : Nat) (c : Nat) (a : Int) (b : Int) (e : Int) (y : ByteArray) (y1 : ByteArray) (y2 : ByteArray) (y3 : ByteArray) (rs : ByteArray) (c0 : UInt8) : List (Option Value) := [some (.pointer (some ⟨p, 4, none⟩)), some (.string y), some (.int .u8 c0.toNat), some (.string y1), some (.string y2), some (.slice A n c), some (.pointer (some ⟨p, 3, none⟩)), some (.int .i64 e), some (.string y3), some (.string rs), some (.string rs)]

set_option maxRecDepth 100000 in
set_option maxHeartbeats 1000000 in
theorem more_any {known sent os : List (Option Tm)} {A : Option Addr} {n c : Nat} (k a b e : Int) (s : List UInt8) (w : World) (hn : n ≤ 2000000000000) (hf : Fine os) (hA : TxS w A n os) (hs : s.length ≤ 4000000000)
    (hk : k ≠ 0 ∧ k ≠ 1 ∧ k ≠ 2 ∧ k ≠ 3 ∧ k ≠ 4 ∧ k ≠ 5 ∧ k ≠ 6 ∧ k ≠ 7 ∧ k ≠ 8 ∧ k ≠ 12) :
    Calls Tryz.prog 85 #[.slice A n c, .agg (mkRow k a b e s).toArray] w (TxR w (encO (stepT known sent os ⟨k, a, b, e, s⟩))) := by
  have hB1 := below_new w (.cells (mkRow k a b e s).toArray 79)
  have hr := heap_new w (.cells (mkRow k a b e s).toArray 79)
  have hAt := Lib.hid (fun W (h : Below (w.alloc (.cells (mkRow k a b e s).toArray 79)).heap.size (w.alloc (.cells (mkRow k a b e s).toArray 79)) W) (i : Int) => rat14_any (c := c) i W hn (Strs.keep (Strs.keep hA hB1) h))
  have hbx := Lib.hid (fun W (h : Below (w.alloc (.cells (mkRow k a b e s).toArray 79)).heap.size (w.alloc (.cells (mkRow k a b e s).toArray 79)) W) => mk_box ((h.block w.heap.size (Array.getElem?_eq_some_iff.1 hr).1).trans hr))
  have hP := hf.pick
  replace hB1 := Lib.hid hB1
  have hz := bs_size s
  clear hA hr
  unfold TxR
  unfold mkRow at *
  obtain ⟨p1, hp1⟩ : ∃ p, pkO os a = p := ⟨_, rfl⟩
  obtain ⟨p2, hp2⟩ : ∃ p, pkO os b = p := ⟨_, rfl⟩
  have hP1 := hP a
  have hP2 := hP b
  rw [hp1] at hP1
  rw [hp2] at hP2
  have hAa := fun W h => hAt.out W h a
  have hAb := fun W h => hAt.out W h b
  rw [hp1] at hAa
  rw [hp2] at hAb
  replace hAa := Lib.hid hAa
  replace hAb := Lib.hid hAb
  obtain ⟨res, hres⟩ : ∃ res, stepT known sent os ⟨k, a, b, e, s⟩ = res := ⟨_, rfl⟩
  rw [hres]
  go_enter Tryz.func85, Tryz.ntmps85
  go_upto_region 1 with fail
  generalize (w.alloc (.cells [Value.int .i64 k, .int .i64 a, .int .i64 b, .int .i64 e, .string (bs s)].toArray 79)) = w1 at *
  obtain ⟨q0, q1, q2, q3, q4⟩ := hbx.out w1 (Below.refl _ _)
  have hAa' := Lib.hid (hAa.out w1 (Below.refl _ _))
  have hAb' := Lib.hid (hAb.out w1 (Below.refl _ _))
  go_upto_region 4 with (first
    | (go_at_call 84; (with_reducible refine hAa'.out.mono ?_); rintro r w2 ⟨rfl, rfl⟩)
    | (go_at_call 84; (with_reducible refine hAb'.out.mono ?_); rintro r w2 ⟨rfl, rfl⟩))
  clear hAa' hAb' hAa hAb
  by_cases h9 : k = 9
  · subst h9
    rw [step9, hp1, hp2] at hres
    cases s with
    | nil =>
      rw [if_pos rfl] at hres
      subst hres
      have hz0 : (bs []).size = 0 := rfl
      clear hz hbx hAt hP hP1 hP2 hp1 hp2
      generalize bs (encO p1) = y1 at *
      generalize bs (encO p2) = y2 at *
      generalize bs [] = y at *
      go_wp2_with fail
      go_ret
      exact ⟨rfl, hB1.out⟩
    | cons c0 r =>
    rw [if_neg (by simp), show ltr (c0 :: r) = c0 from rfl] at hres
    obtain ⟨p3, hp3⟩ : ∃ p, pkO os e = p := ⟨_, rfl⟩
    have hP3 := hP e
    rw [hp3] at hres hP3
    have cD := fun W => rDerive_any c0.toNat p1 p2 p3 (UInt8.toNat_lt c0) hP1.2 hP2.2 hP3.2 W
    rw [hres] at cD
    unfold TxR at cD
    have hAe : Hid (∀ W, Below w1.heap.size w1 W → Calls Tryz.prog 84 #[.slice A n c, .int .i64 e] W fun r w' => r = .returned (.string (bs (encO p3))) ∧ W = w') := fun W h => by have := hAt.out W h e; rw [hp3] at this; exact this
    have hsz : ((bs (c0 :: r)).size : Int) ≠ 0 := by rw [hz]; simp; omega
    have h1 : 0 < (bs (c0 :: r)).size := by rw [hz]; simp
    have hl0 : (((bs (c0 :: r)).size : Int) == 0) = false := by rw [beq_eq_false_iff_ne]; exact hsz
    have hgh := Lib.hid (fun h => bs_at (l := c0 :: r) (p := 0) rfl h)
    replace cD := Lib.hid cD
    clear hz hP hP1 hP2 hP3 hp1 hp2 hp3 hres hAt hsz
    generalize bs (encO p1) = y1 at *
    generalize bs (encO p2) = y2 at *
    generalize bs (encO p3) = y3 at *
    generalize hrs : bs (encO res) = rs at *
    have hrsh := Lib.hid hrs
    clear hrs
    generalize bs (c0 :: r) = y at *
    go_upto_region 7 with fail
    refine region_iw tbRr7 dsRr7 (vsRr7 (w.heap.size) A n c a b e y y1 y2 y3 rs c0) (fun L T W => Below w1.heap.size w1 W) rfl (by decide) (by kernel_rfl) ?hlt ?hstep ?hdone ?hstart
    case hstart => exact drewN_below 1
    case hlt =>
      intro ix o ho
      have hi := (Array.getElem?_eq_some_iff.1 ho).1
      match ix, hi with
      | 0, _ => obtain rfl := Option.some.inj ho; decide
      | 1, _ => obtain rfl := Option.some.inj ho; decide
      | 2, _ => obtain rfl := Option.some.inj ho; decide
      | 3, _ => obtain rfl := Option.some.inj ho; decide
      | 4, _ => obtain rfl := Option.some.inj ho; decide
      | 5, _ => obtain rfl := Option.some.inj ho; decide
      | 6, _ => obtain rfl := Option.some.inj ho; decide
      | 7, _ => obtain rfl := Option.some.inj ho; decide
      | 8, _ => obtain rfl := Option.some.inj ho; decide
      | 9, _ => obtain rfl := Option.some.inj ho; decide
      | 10, _ => obtain rfl := Option.some.inj ho; decide
    case hstep =>
      intro T1 hE L T W ix o hF hW hc ho hLi hd K hK
      have hN : T1.size = 90 := by rw [hE]; rfl
      have f0 : T.getD 0 undef = .slice A n c := (hF.old 0 (by decide)).trans (by rw [hE]; rfl)
      have f3 : T.getD 3 undef = .pointer (some ⟨(w.heap.size), 0, none⟩) := (hF.old 3 (by decide)).trans (by rw [hE]; rfl)
      have f5 : T.getD 5 undef = .string y1 := (hF.old 5 (by decide)).trans (by rw [hE]; rfl)
      have f6 : T.getD 6 undef = .string y2 := (hF.old 6 (by decide)).trans (by rw [hE]; rfl)
      clear hE
      replace hF := Lib.hid hF
      replace hW := Lib.hid hW
      replace hK := Lib.hid hK
      have hi := (List.getElem?_eq_some_iff.1 ho).1
      match ix, hi with
      | 0, _ =>
        obtain rfl := Option.some.inj ho
        clear hd ho hi hc hLi
        exact st_val (v := .pointer (some ⟨(w.heap.size), 4, none⟩)) (w' := W) (want_none rfl) (by unfold execOp; dsimp only [Act.eval]; simp only [f3]; go_simp) (hK.out _ _ (hF.out.put (k := 0) (s := 25) rfl (by decide) hN (by decide) (fun u hu => Option.some.inj (Option.some.inj (show some (some (.pointer (some ⟨(w.heap.size), 4, none⟩))) = some (some u) from hu))) hW.out))
      | 1, _ =>
        obtain rfl := Option.some.inj ho
        have l0 : L 0 = true := dep_of hd (n := 0) (by decide)
        have e25 : T.getD 25 undef = .pointer (some ⟨(w.heap.size), 4, none⟩) := hF.out.val 0 25 _ l0 rfl rfl
        have hcc := (hbx.out W hW.out).2.2.2.2
        clear hd ho hi hc hLi
        exact st_val (v := .string y) (w' := W) (want_none rfl) (by unfold execOp; dsimp only [Act.eval]; simp only [e25]; go_simp) (hK.out _ _ (hF.out.put (k := 1) (s := 26) rfl (by decide) hN (by decide) (fun u hu => Option.some.inj (Option.some.inj (show some (some (.string y)) = some (some u) from hu))) hW.out))
      | 2, _ =>
        obtain rfl := Option.some.inj ho
        have l1 : L 1 = true := dep_of hd (n := 1) (by decide)
        have e26 : T.getD 26 undef = .string y := hF.out.val 1 26 _ l1 rfl rfl
        have hg0 := hgh.out
        clear hd ho hi hc hLi
        exact st_val (v := .int .u8 c0.toNat) (w' := W) (want_none rfl) (by unfold execOp; dsimp only [Act.eval]; simp only [e26]; go_simp) (hK.out _ _ (hF.out.put (k := 2) (s := 27) rfl (by decide) hN (by decide) (fun u hu => Option.some.inj (Option.some.inj (show some (some (.int .u8 c0.toNat)) = some (some u) from hu))) hW.out))
      | 3, _ =>
        obtain rfl := Option.some.inj ho
        clear hd ho hi hc hLi
        exact st_val (v := .string y1) (w' := W) (want_none rfl) (by unfold execOp; dsimp only [Act.eval]; simp only [f5]; go_simp) (hK.out _ _ (hF.out.put (k := 3) (s := 28) rfl (by decide) hN (by decide) (fun u hu => Option.some.inj (Option.some.inj (show some (some (.string y1)) = some (some u) from hu))) hW.out))
      | 4, _ =>
        obtain rfl := Option.some.inj ho
        clear hd ho hi hc hLi
        exact st_val (v := .string y2) (w' := W) (want_none rfl) (by unfold execOp; dsimp only [Act.eval]; simp only [f6]; go_simp) (hK.out _ _ (hF.out.put (k := 4) (s := 29) rfl (by decide) hN (by decide) (fun u hu => Option.some.inj (Option.some.inj (show some (some (.string y2)) = some (some u) from hu))) hW.out))
      | 5, _ =>
        obtain rfl := Option.some.inj ho
        clear hd ho hi hc hLi
        exact st_val (v := .slice A n c) (w' := W) (want_none rfl) (by unfold execOp; dsimp only [Act.eval]; simp only [f0]; go_simp) (hK.out _ _ (hF.out.put (k := 5) (s := 30) rfl (by decide) hN (by decide) (fun u hu => Option.some.inj (Option.some.inj (show some (some (.slice A n c)) = some (some u) from hu))) hW.out))
      | 6, _ =>
        obtain rfl := Option.some.inj ho
        clear hd ho hi hc hLi
        exact st_val (v := .pointer (some ⟨(w.heap.size), 3, none⟩)) (w' := W) (want_none rfl) (by unfold execOp; dsimp only [Act.eval]; simp only [f3]; go_simp) (hK.out _ _ (hF.out.put (k := 6) (s := 31) rfl (by decide) hN (by decide) (fun u hu => Option.some.inj (Option.some.inj (show some (some (.pointer (some ⟨(w.heap.size), 3, none⟩))) = some (some u) from hu))) hW.out))
      | 7, _ =>
        obtain rfl := Option.some.inj ho
        have l6 : L 6 = true := dep_of hd (n := 6) (by decide)
        have e31 : T.getD 31 undef = .pointer (some ⟨(w.heap.size), 3, none⟩) := hF.out.val 6 31 _ l6 rfl rfl
        have hcc := (hbx.out W hW.out).2.2.2.1
        clear hd ho hi hc hLi
        exact st_val (v := .int .i64 e) (w' := W) (want_none rfl) (by unfold execOp; dsimp only [Act.eval]; simp only [e31]; go_simp) (hK.out _ _ (hF.out.put (k := 7) (s := 32) rfl (by decide) hN (by decide) (fun u hu => Option.some.inj (Option.some.inj (show some (some (.int .i64 e)) = some (some u) from hu))) hW.out))
      | 8, _ =>
        obtain rfl := Option.some.inj ho
        have l5 : L 5 = true := dep_of hd (n := 5) (by decide)
        have e30 : T.getD 30 undef = .slice A n c := hF.out.val 5 30 _ l5 rfl rfl
        have l7 : L 7 = true := dep_of hd (n := 7) (by decide)
        have e32 : T.getD 32 undef = .int .i64 e := hF.out.val 7 32 _ l7 rfl rfl
        have cc := Lib.hid (hAe.out W hW.out)
        clear hd ho hi hc hLi
        refine st_call (want_none rfl) (by unfold execOp; go_simp) cc.out ?_
        rintro r w3 ⟨rfl, rfl⟩
        exact ⟨_, rfl, hK.out _ _ (hF.out.put (k := 8) (s := 33) rfl (by decide) hN (by decide) (fun u hu => Option.some.inj (Option.some.inj (show some (some (.string y3)) = some (some u) from hu))) hW.out)⟩
      | 9, _ =>
        obtain rfl := Option.some.inj ho
        have l2 : L 2 = true := dep_of hd (n := 2) (by decide)
        have e27 : T.getD 27 undef = .int .u8 c0.toNat := hF.out.val 2 27 _ l2 rfl rfl
        have l3 : L 3 = true := dep_of hd (n := 3) (by decide)
        have e28 : T.getD 28 undef = .string y1 := hF.out.val 3 28 _ l3 rfl rfl
        have l4 : L 4 = true := dep_of hd (n := 4) (by decide)
        have e29 : T.getD 29 undef = .string y2 := hF.out.val 4 29 _ l4 rfl rfl
        have l8 : L 8 = true := dep_of hd (n := 8) (by decide)
        have e33 : T.getD 33 undef = .string y3 := hF.out.val 8 33 _ l8 rfl rfl
        have hb := hW.out
        have cc := Lib.hid (cD.out W)
        clear hd ho hi hc hLi
        refine st_call (want_none rfl) (by unfold execOp; go_simp) cc.out ?_
        rintro r w3 ⟨rfl, hb4⟩
        exact ⟨_, rfl, hK.out _ _ (hF.out.put (k := 9) (s := 34) rfl (by decide) hN (by decide) (fun u hu => Option.some.inj (Option.some.inj (show some (some (.string rs)) = some (some u) from hu))) (hb.trans (hb4.mono hb.size)))⟩
      | 10, _ =>
        obtain rfl := Option.some.inj ho
        have l9 : L 9 = true := dep_of hd (n := 9) (by decide)
        have e34 : T.getD 34 undef = .string rs := hF.out.val 9 34 _ l9 rfl rfl
        clear hd ho hi hc hLi
        exact st_val (v := .string rs) (w' := W) (want_none rfl) (by unfold execOp; dsimp only [Act.eval]; simp only [e34]; go_simp) (hK.out _ _ (hF.out.put (k := 10) (s := 4) rfl (by decide) hN (by decide) (fun u hu => Option.some.inj (Option.some.inj (show some (some (.string rs)) = some (some u) from hu))) hW.out))
    case hdone =>
      intro L T W2 hF hW hall
      have hB := Lib.hid (hB1.out.trans (hW.mono hB1.out.size))
      have hT : T = #[.slice A n c, .agg #[.int .i64 9, .int .i64 a, .int .i64 b, .int .i64 e, .string y], undef, .pointer (some ⟨(w.heap.size), 0, none⟩), .string rs, .string y1, .string y2, undef, undef, .slice A n c, .pointer (some ⟨(w.heap.size), 1, none⟩), .int .i64 a, .string y1, .slice A n c, .pointer (some ⟨(w.heap.size), 2, none⟩), .int .i64 b, .string y2, .pointer (some ⟨(w.heap.size), 0, none⟩), .int .i64 9, .bool true, .bool true, .pointer (some ⟨(w.heap.size), 4, none⟩), .string y, .int .i64 y.size, .bool false, .pointer (some ⟨(w.heap.size), 4, none⟩), .string y, .int .u8 c0.toNat, .string y1, .string y2, .slice A n c, .pointer (some ⟨(w.heap.size), 3, none⟩), .int .i64 e, .string y3, .string rs, undef, undef, undef, undef, undef, undef, undef, undef, undef, undef, undef, undef, undef, undef, undef, undef, undef, undef, undef, undef, undef, undef, undef, undef, undef, undef, undef, undef, undef, undef, undef, undef, undef, undef, undef, undef, undef, undef, undef, undef, undef, undef, undef, undef, undef, undef, undef, undef, undef, undef, undef, undef, undef, undef, undef] := (hF.fin [(25, .pointer (some ⟨(w.heap.size), 4, none⟩)), (26, .string y), (27, .int .u8 c0.toNat), (28, .string y1), (29, .string y2), (30, .slice A n c), (31, .pointer (some ⟨(w.heap.size), 3, none⟩)), (32, .int .i64 e), (33, .string y3), (34, .string rs), (4, .string rs)] [25, 26, 27, 28, 29, 30, 31, 32, 33, 34, 4] rfl (List.forall_mem_cons.2 ⟨hF.val 0 _ _ (hall 0 (show 0 < 11 by decide)) rfl rfl, (List.forall_mem_cons.2 ⟨hF.val 1 _ _ (hall 1 (show 1 < 11 by decide)) rfl rfl, (List.forall_mem_cons.2 ⟨hF.val 2 _ _ (hall 2 (show 2 < 11 by decide)) rfl rfl, (List.forall_mem_cons.2 ⟨hF.val 3 _ _ (hall 3 (show 3 < 11 by decide)) rfl rfl, (List.forall_mem_cons.2 ⟨hF.val 4 _ _ (hall 4 (show 4 < 11 by decide)) rfl rfl, (List.forall_mem_cons.2 ⟨hF.val 5 _ _ (hall 5 (show 5 < 11 by decide)) rfl rfl, (List.forall_mem_cons.2 ⟨hF.val 6 _ _ (hall 6 (show 6 < 11 by decide)) rfl rfl, (List.forall_mem_cons.2 ⟨hF.val 7 _ _ (hall 7 (show 7 < 11 by decide)) rfl rfl, (List.forall_mem_cons.2 ⟨hF.val 8 _ _ (hall 8 (show 8 < 11 by decide)) rfl rfl, (List.forall_mem_cons.2 ⟨hF.val 9 _ _ (hall 9 (show 9 < 11 by decide)) rfl rfl, (List.forall_mem_cons.2 ⟨hF.val 10 _ _ (hall 10 (show 10 < 11 by decide)) rfl rfl, (fun _ h => absurd h List.not_mem_nil)⟩)⟩)⟩)⟩)⟩)⟩)⟩)⟩)⟩)⟩)⟩) (by decide)).trans (by kernel_rfl)
      clear hF hall
      subst hT
      clear hW
      go_wp2_with fail
      go_ret
      exact ⟨(congrArg (fun y => Ending.returned (Value.string y)) hrsh.out).symm, hB.out⟩
  by_cases h10 : k = 10
  · subst h10
    rw [step10, hp1, hp2] at hres
    clear hz hbx hAt hP hp1 hp2
    by_cases he0 : e < 0
    · rw [if_neg (by omega)] at hres
      subst hres
      clear hP1 hP2
      generalize bs (encO p1) = y1 at *
      generalize bs (encO p2) = y2 at *
      go_wp2_with fail
      go_ret
      exact ⟨rfl, hB1.out⟩
    by_cases he1 : 4294967295 < e
    · rw [if_neg (by omega)] at hres
      subst hres
      clear hP1 hP2
      generalize bs (encO p1) = y1 at *
      generalize bs (encO p2) = y2 at *
      go_wp2_with fail
      go_ret
      exact ⟨rfl, hB1.out⟩
    · rw [if_pos (by omega)] at hres
      obtain ⟨m, rfl⟩ := Int.eq_ofNat_of_zero_le (Int.not_lt.1 he0)
      have cS := fun W => rSeal_any p1 p2 m (by omega) hP1.2 hP2.2 W
      rw [Int.toNat_natCast] at hres
      rw [hres] at cS
      unfold TxR at cS
      have hwr : IntKind.u32.wrap (m : Int) = (m : Int) := by rw [IntKind.wrap_u32]; omega
      replace cS := Lib.hid cS
      clear hP1 hP2 hres
      generalize bs (encO p1) = y1 at *
      generalize bs (encO p2) = y2 at *
      generalize hrs : bs (encO res) = rs at *
      have hrsh := Lib.hid hrs
      clear hrs
      go_wp2_with (go_at_call 72; refine (cS.out _).mono ?_; rintro r w3 ⟨rfl, hb3⟩)
      go_ret
      exact ⟨(congrArg (fun y => Ending.returned (Value.string y)) hrsh.out).symm, hB1.out.trans (hb3.mono hB1.out.size)⟩
  by_cases h11 : k = 11
  · subst h11
    rw [step11, hp1, hp2] at hres
    have cK := fun W => rKind_any p1 hP1.1 (by omega) W
    clear hz hbx hAt hP hp1 hp2
    by_cases hk9 : kindO p1 = 9
    · cases p1 with
      | none => cases hk9
      | some t =>
        have h9' : t.kind = 9 := hk9
        have hok := hP1.1 t rfl
        have cV := rView_any t hok (by have := hP1.2; show (encO (some t)).length ≤ _; omega) w1
        obtain ⟨u, v, huv, hu, hv⟩ := seal_args hok h9'
        have hr2 := openT_seal (q := p2) h9' huv
        rw [hk9] at cK
        rw [h9', huv] at cV
        have heq := encO_eq (o := some u) (p := p2) (fun x hx => by obtain rfl := Option.some.inj hx; exact hu) hP2.1
        obtain ⟨ee, q, hee⟩ : ∃ ee : Bool, ((bs u.enc).toList == (bs (encO p2)).toList) = ee ∧ (ee = true ↔ some u = p2) := by
          refine ⟨_, rfl, ?_⟩
          rw [bs_toList', bs_toList']
          simp only [beq_iff_eq]
          exact heq
        rw [hr2] at hres
        clear hr2 heq
        change Hid _ at hB1
        have cK' : Hid (∀ W, Calls Tryz.prog 40 #[.string (bs t.enc)] W fun r w' => r = .returned (.int .i64 9) ∧ W = w') := cK
        replace cV := Lib.hid cV
        rw [show encO (some t) = t.enc from rfl]
        clear hP1 hP2 hok hk9 h9' cK huv hu hv
        generalize bs (encO p2) = y2 at *
        generalize bs t.enc = y1 at *
        go_upto_region 16 with (first
          | (go_at_call 40; refine (cK'.out _).mono ?_; rintro r w2 ⟨rfl, rfl⟩)
          | (go_at_call 41; refine cV.out.mono ?_; rintro r w2 ⟨Av, cv, rfl, hSv, hb⟩
             have z1 := Lib.hid (heap_new w2 (.cells rz 91))
             have hS1 := Lib.hid (strs_new hSv (.cells rz 91) (rnC (9 : Nat) t.a t.b t.s (.slice Av 2 cv)).toArray)
             have hb2 := Lib.hid (hb.trans (Below.mono (below_setRow (below_new w2 (.cells rz 91)) (Nat.le_refl _) (rnC (9 : Nat) t.a t.b t.s (.slice Av 2 cv)).toArray) hb.size))
             clear hb hSv)
          | (refine wpList_alloc_row 91 rfl rfl rz rn_zero ?_; try simp only [World.size_alloc])
          | (refine wpList_store_at 91 _ _ rfl rfl w2.heap.size (rnC (9 : Nat) t.a t.b t.s (.slice Av 2 cv)).toArray rfl rfl 91 rz z1.out (rn_info rfl) rfl rn_all ?_))
        have hr := hsetRow _ _ _ (rnC (9 : Nat) t.a t.b t.s (.slice Av 2 cv)).toArray _ _ z1.out
        have hb2 : Below w1.heap.size w1 ((w2.alloc (.cells rz 91)).setRow w2.heap.size (rnC (9 : Nat) t.a t.b t.s (.slice Av 2 cv)).toArray) := hb2.out
        have hS1 : Strs ((w2.alloc (.cells rz 91)).setRow w2.heap.size (rnC (9 : Nat) t.a t.b t.s (.slice Av 2 cv)).toArray) Av 2 [bs u.enc, bs v.enc] := hS1.out
        generalize ((w2.alloc (.cells rz 91)).setRow w2.heap.size (rnC (9 : Nat) t.a t.b t.s (.slice Av 2 cv)).toArray) = w3 at *
        generalize w2.heap.size = p9 at *
        have d4 : w3.cell? ⟨p9, 4, none⟩ = some (.slice Av 2 cv) := cell_of_row w3 p9 4 _ _ _ hr
        obtain ⟨bA, offA, xA, rfl, _, hxA, hcA⟩ := hS1.at_ (show 0 < 2 by decide)
        obtain ⟨bB, offB, xB, eB, _, hxB, hcB⟩ := hS1.at_ (show 1 < 2 by decide)
        injection eB with eB
        injection eB with eb1 eb2 _
        subst eb1 eb2
        obtain rfl : bs u.enc = xA := Option.some.inj hxA
        obtain rfl : bs v.enc = xB := Option.some.inj hxB
        have hBz := Lib.hid (hB1.out.trans (hb2.mono hB1.out.size))
        replace hcA : w3.cell? ⟨bA, offA, none⟩ = some (.string (bs u.enc)) := hcA
        clear hr z1 hS1 hb2 hxA hxB cV cK'
        cases ee with
        | false =>
          rw [if_neg (fun h => Bool.false_ne_true (hee.2 h))] at hres
          subst hres
          clear hee
          generalize bs u.enc = yu at *
          go_wp2_with fail
          go_ret
          exact ⟨rfl, hBz.out⟩
        | true =>
          rw [if_pos (hee.1 rfl)] at hres
          subst hres
          clear hee
          generalize bs u.enc = yu at *
          generalize hyv : bs v.enc = yv at *
          have hyvh := Lib.hid hyv
          clear hyv
          go_wp2_with fail
          go_ret
          exact ⟨(congrArg (fun y => Ending.returned (Value.string y)) hyvh.out).symm, hBz.out⟩
    · have e1 : openT p1 p2 = none := openT_not hk9
      rw [e1] at hres
      subst hres
      have hkn : ((kindO p1 : Int) == 9) = false := by rw [beq_eq_false_iff_ne]; omega
      replace cK := Lib.hid cK
      clear hP1 hP2 e1 hk9
      generalize bs (encO p1) = y1 at *
      generalize bs (encO p2) = y2 at *
      generalize kindO p1 = kk at *
      go_wp2_with (go_at_call 40; refine (cK.out _).mono ?_; rintro r w2 ⟨rfl, rfl⟩)
      go_ret
      exact ⟨rfl, hB1.out⟩
  by_cases h13 : k = 13
  · subst h13
    rw [step13, hp1, hp2] at hres
    have cK := fun W => rKind_any p1 hP1.1 (by omega) W
    by_cases hk10 : kindO p1 = 10
    · cases p1 with
      | none => cases hk10
      | some t =>
        have h10' : t.kind = 10 := hk10
        have hok := hP1.1 t rfl
        have cV := rView_own t hok (by have := hP1.2; show (encO (some t)).length ≤ _; omega) w1
        have htf := list_fine hok h10' (by have := hP1.2; exact this)
        rw [hk10] at cK
        rw [h10'] at cV
        have cK' : Hid (∀ W, Calls Tryz.prog 40 #[.string (bs t.enc)] W fun r w' => r = .returned (.int .i64 10) ∧ W = w') := cK
        have hfl : ∀ (v : Value) (ta tb : Int) (ys : ByteArray) (W : World), (Instr.field 91 (.agg #[.int .i64 10, .int .i64 ta, .int .i64 tb, .string ys, v]) 4).run Tryz.prog W = .ok v W := fun v ta tb ys W => by kernel_rfl
        have cV : Calls Tryz.prog 41 #[.string (bs t.enc)] w1 fun r w' => ∃ (A : Option Addr) (c : Nat), r = .returned (.agg #[.int .i64 10, .int .i64 (t.a : Int), .int .i64 (t.b : Int), .string (bs t.s), .slice A t.args.length c]) ∧ Strs w' A t.args.length (t.args.map fun u => bs u.enc) ∧ Below w1.heap.size w1 w' ∧ OwnS w' w1.heap.size (.slice A t.args.length c) (t.args.map fun u => bs u.enc) := cV
        generalize (t.a : Int) = ta at cV
        generalize (t.b : Int) = tb at cV
        generalize bs t.s = ysn at cV
        replace cV := Lib.hid cV
        rw [show encO (some t) = t.enc from rfl]
        have hadd : addT (some t) p2 = listT (t.args.map some ++ [p2]) := by unfold addT; dsimp only; rw [if_pos h10']
        rw [hadd] at hres
        have hp2f := hP2
        have hap : ((t.args.map fun u => bs u.enc) ++ [bs (encO p2)]) = (t.args.map some ++ [p2]).map fun o => bs (encO o) := by simp [encO]
        have hap := Lib.hid hap
        obtain ⟨i0, hi, hz0, hz1, hz2⟩ := info_parts str_info
        have hsm : ∀ o ∈ t.args.map some ++ [p2], (encO o).length ≤ 131072 := fun o ho => by
          rcases List.mem_append.1 ho with ho | ho
          · exact (htf.2 o ho).2
          · rw [List.mem_singleton.1 ho]; exact hP2.2
        have hsm := Lib.hid hsm
        have hlen := htf.1
        have hla : (t.args.map fun u => bs u.enc).length = t.args.length := by simp
        have hlah := Lib.hid hla
        have hresh := Lib.hid hres
        clear hz hAt hP hp1 hp2 hP1 hP2 hok hk10 h10' cK hadd hp2f htf hres hla
        obtain ⟨la, hlaE⟩ : ∃ la, t.args.length = la := ⟨_, rfl⟩
        rw [hlaE] at cV hlen hlah
        generalize hy2 : bs (encO p2) = y2 at *
        have hy2h := Lib.hid hy2
        clear hy2
        generalize bs t.enc = y1 at *
        have hlaEh := Lib.hid hlaE
        clear hlaE
        go_upto_region 26 with (first
          | (go_at_call 40; refine (cK'.out _).mono ?_; rintro r w2 ⟨rfl, rfl⟩)
          | (go_at_call 41; refine cV.out.mono ?_; rintro r w2 ⟨Av, cv, rfl, -, hb, hO⟩
             obtain ⟨k0, k1, k2, k3, k4⟩ := hbx.out w2 hb
             have hb2 := Lib.hid hb
             have hOv := Lib.hid hO
             clear hb hO))
        obtain ⟨A2, c2, zs, e2, hzl, hOn, hup⟩ := own_next hOv.out y2
        clear hOv
        rw [hlah.out] at e2 hzl
        injection e2 with q1 q2 q3
        subst q1 q3
        clear q2
        have hzb : zs.length ≤ 32 := by omega
        have hOn := Lib.hid hOn
        have hup := Lib.hid hup
        have hBn := Lib.hid (hb2.out.trans ((below_new w2 (.cells #[.string y2] 9)).mono hb2.out.size))
        have hrow := Lib.hid (rangeAt_list (heap_new w2 (.cells [Value.string y2].toArray 9)))
        clear hzl
        go_upto_region 27 with (at_builtin; refine wpList_append_one rfl _ _ 29 rfl 9 i0 _ 1 16 Tryz.underlying29 hi hz0 hz1 hz2 rfl (by decide) w1 hBn.out _ zs rfl hOn.out w2.heap.size 1 [.string y2] rfl hrow.out rfl (by simp; rfl) (by unfold maxLen; omega) (by omega) ?_; intro v2 w5 hO2 hB2 hg2)
        have hO3 := hup.out _ _ hO2
        rw [hap.out] at hO3
        obtain ⟨A3, c3, e3, hS3⟩ := hO3.strs
        have hl3 : ((t.args.map some ++ [p2]).map fun o => bs (encO o)).length = la + 1 := by simp; exact hlaEh.out
        rw [hl3] at e3 hS3
        subst e3
        have cL := rList_any _ A3 (la + 1) c3 w5 (by simp; exact hlaEh.out) (by omega) hsm.out hS3
        rw [hresh.out] at cL
        unfold TxR at cL
        have hBz := Lib.hid (hB1.out.trans (hB2.mono hB1.out.size))
        replace cL := Lib.hid cL
        clear hO2 hB2 hg2 hO3 hS3 hl3
        generalize hrs : bs (encO res) = rs at *
        have hrsh := Lib.hid hrs
        clear hrs
        go_wp2_with (go_at_call 73; refine cL.out.mono ?_; rintro r w6 ⟨rfl, hb6⟩)
        go_ret
        exact ⟨(congrArg (fun y => Ending.returned (Value.string y)) hrsh.out).symm, hBz.out.trans (hb6.mono hBz.out.size)⟩
    · have e1 : addT p1 p2 = none := addT_not hk10
      rw [e1] at hres
      subst hres
      have hkn : ((kindO p1 : Int) == 10) = false := by rw [beq_eq_false_iff_ne]; omega
      replace cK := Lib.hid cK
      clear hz hbx hAt hP hp1 hp2 hP1 hP2 e1 hk10
      generalize bs (encO p1) = y1 at *
      generalize bs (encO p2) = y2 at *
      generalize kindO p1 = kk at *
      go_wp2_with (go_at_call 40; refine (cK.out _).mono ?_; rintro r w2 ⟨rfl, rfl⟩)
      go_ret
      exact ⟨rfl, hB1.out⟩
  by_cases h14 : k = 14
  · subst h14
    rw [step14, hp1] at hres
    have cK := fun W => rKind_any p1 hP1.1 (by omega) W
    by_cases hk10 : kindO p1 = 10
    · cases p1 with
      | none => cases hk10
      | some t =>
        have h10' : t.kind = 10 := hk10
        have hok := hP1.1 t rfl
        have cV := rView_own t hok (by have := hP1.2; show (encO (some t)).length ≤ _; omega) w1
        have htf := list_fine hok h10' (by have := hP1.2; exact this)
        rw [hk10] at cK
        rw [h10'] at cV
        have cK' : Hid (∀ W, Calls Tryz.prog 40 #[.string (bs t.enc)] W fun r w' => r = .returned (.int .i64 10) ∧ W = w') := cK
        have hfl : ∀ (v : Value) (ta tb : Int) (ys : ByteArray) (W : World), (Instr.field 91 (.agg #[.int .i64 10, .int .i64 ta, .int .i64 tb, .string ys, v]) 4).run Tryz.prog W = .ok v W := fun v ta tb ys W => by kernel_rfl
        have cV : Calls Tryz.prog 41 #[.string (bs t.enc)] w1 fun r w' => ∃ (A : Option Addr) (c : Nat), r = .returned (.agg #[.int .i64 10, .int .i64 (t.a : Int), .int .i64 (t.b : Int), .string (bs t.s), .slice A t.args.length c]) ∧ Strs w' A t.args.length (t.args.map fun u => bs u.enc) ∧ Below w1.heap.size w1 w' ∧ OwnS w' w1.heap.size (.slice A t.args.length c) (t.args.map fun u => bs u.enc) := cV
        generalize (t.a : Int) = ta at cV
        generalize (t.b : Int) = tb at cV
        generalize bs t.s = ysn at cV
        replace cV := Lib.hid cV
        rw [show encO (some t) = t.enc from rfl]
        have hat : atT (some t) b = pkO (t.args.map some) b := atT_pk h10'
        rw [hat] at hres
        have hlen := htf.1
        have hcA : Hid (∀ (W : World) (Av : Option Addr) (cv : Nat), Strs W Av t.args.length (t.args.map fun u => bs u.enc) → Calls Tryz.prog 84 #[.slice Av t.args.length cv, .int .i64 b] W fun r w' => r = .returned (.string (bs (encO res))) ∧ W = w') := fun W Av cv hS => by
          have h := rat14_any (os := t.args.map some) (c := cv) b W (by omega) (show TxS W Av t.args.length (t.args.map some) by unfold TxS; rw [alls_encs]; exact hS)
          rw [hres] at h
          exact h
        clear hz hAt hP hp1 hp2 hP1 hP2 hok hk10 h10' cK htf hres hat
        generalize t.args.length = la at *
        generalize bs (encO p2) = y2 at *
        generalize bs t.enc = y1 at *
        generalize hrs : bs (encO res) = rs at *
        have hrsh := Lib.hid hrs
        clear hrs
        go_wp2_with (first
          | (go_at_call 40; refine (cK'.out _).mono ?_; rintro r w2 ⟨rfl, rfl⟩)
          | (go_at_call 41; refine cV.out.mono ?_; rintro r w2 ⟨Av, cv, rfl, hS, hb, -⟩
             obtain ⟨k0, k1, k2, k3, k4⟩ := hbx.out w2 hb
             have hb2 := Lib.hid (hB1.out.trans (hb.mono hB1.out.size))
             have cA := Lib.hid (hcA.out w2 Av cv hS)
             clear hb hS)
          | (go_at_call 84; refine cA.out.mono ?_; rintro r w3 ⟨rfl, rfl⟩))
        go_ret
        exact ⟨(congrArg (fun y => Ending.returned (Value.string y)) hrsh.out).symm, hb2.out⟩
    · have e1 : atT p1 b = none := atT_not hk10
      rw [e1] at hres
      subst hres
      have hkn : ((kindO p1 : Int) == 10) = false := by rw [beq_eq_false_iff_ne]; omega
      replace cK := Lib.hid cK
      clear hz hbx hAt hP hp1 hp2 hP1 hP2 e1 hk10
      generalize bs (encO p1) = y1 at *
      generalize bs (encO p2) = y2 at *
      generalize kindO p1 = kk at *
      go_wp2_with (go_at_call 40; refine (cK.out _).mono ?_; rintro r w2 ⟨rfl, rfl⟩)
      go_ret
      exact ⟨rfl, hB1.out⟩
  · have e1 : stepT known sent os ⟨k, a, b, e, s⟩ = none := step_else hk h9 h10 h11 h13 h14
    rw [e1] at hres
    subst hres
    have f9 : (k == 9) = false := by rw [beq_eq_false_iff_ne]; exact h9
    have f10 : (k == 10) = false := by rw [beq_eq_false_iff_ne]; exact h10
    have f11 : (k == 11) = false := by rw [beq_eq_false_iff_ne]; exact h11
    have f13 : (k == 13) = false := by rw [beq_eq_false_iff_ne]; exact h13
    have f14 : (k == 14) = false := by rw [beq_eq_false_iff_ne]; exact h14
    clear hP hP1 hP2 hAt hbx hp1 hp2 hz e1 h9 h10 h11 h13 h14 hk
    generalize bs (encO p1) = y1 at *
    generalize bs (encO p2) = y2 at *
    go_wp2_with fail
    go_ret
    exact ⟨rfl, hB1.out⟩
end Go.Proofs.YtphnakdgpilcmaaGreatDoor
