/- The insertion sort of nonces' numbers by (*Arena).before (printed by wip/gen_ins.py). -/
import Derived.Test.YtphnakdgpilcmaaGreatDoorHb8
import Derived.Test.YtphnakdgpilcmaaGreatDoorHb2
namespace Go.Proofs.YtphnakdgpilcmaaGreatDoor
open Go.RowKit Go.Maps

/-- A block of numbers of terms that is the call's own. -/
def Dat (w : World) (q : Nat) (zs : List Nat) : Prop := ∃ cur : Array Value, w.heap[q]? = some (.cells cur 33 (0, 0)) ∧ ∀ (j x : Nat), zs[j]? = some x → cur[j]? = some (.int .i64 x)
theorem Dat.cell {w : World} {q : Nat} {zs : List Nat} (h : Dat w q zs) {j x : Nat} (hx : zs[j]? = some x) : w.cell? ⟨q, j, none⟩ = some (.int .i64 x) := by
  obtain ⟨cur, hq, hc⟩ := h
  rw [cell_of_row w q j _ _ _ hq]
  exact hc j x hx
theorem Dat.lt {w : World} {q : Nat} {zs : List Nat} (h : Dat w q zs) : q < w.heap.size := by
  obtain ⟨cur, hq, hc⟩ := h
  exact (Array.getElem?_eq_some_iff.1 hq).1
theorem Dat.keep {w w' : World} {q : Nat} {zs : List Nat} (h : Dat w q zs) (hb : Below w.heap.size w w') : Dat w' q zs := by
  obtain ⟨cur, hq, hc⟩ := h
  exact ⟨cur, (hb.block q (Array.getElem?_eq_some_iff.1 hq).1).trans hq, hc⟩
/-- The swap. -/
theorem dat_swap {l r : List Nat} {p x y : Nat} {cur : Array Value} (hy : l[p]? = some y) (hc : ∀ (j v : Nat), (dwn x l (p + 1) ++ r)[j]? = some v → cur[j]? = some (.int .i64 v)) :
    ∀ (j v : Nat), (dwn x l p ++ r)[j]? = some v → ((cur.setIfInBounds (p + 1) (.int .i64 y)).setIfInBounds p (.int .i64 x))[j]? = some (.int .i64 v) := by
  intro j v hv
  have hpl := (List.getElem?_eq_some_iff.1 hy).1
  have h1 : cur[p]? = some (.int .i64 y) := hc p y (by rw [List.getElem?_append_left (by rw [dwn_len]; omega), dwn_low x l hpl]; exact hy)
  have h2 : cur[p + 1]? = some (.int .i64 x) := hc (p + 1) x (by rw [List.getElem?_append_left (by rw [dwn_len]; omega), dwn_at x l (by omega)])
  have s1 := (Array.getElem?_eq_some_iff.1 h1).1
  have s2 := (Array.getElem?_eq_some_iff.1 h2).1
  rw [Array.getElem?_setIfInBounds]
  by_cases e : p = j
  · subst e
    rw [if_pos rfl, if_pos (by rw [Array.size_setIfInBounds]; exact s1)]
    rw [List.getElem?_append_left (by rw [dwn_len]; omega), dwn_at x l (by omega)] at hv
    obtain rfl := Option.some.inj hv
    rfl
  rw [if_neg e, Array.getElem?_setIfInBounds]
  by_cases e2 : p + 1 = j
  · subst e2
    rw [if_pos rfl, if_pos s2]
    rw [List.getElem?_append_left (by rw [dwn_len]; omega), dwn_swap x hy, if_neg (by omega), if_pos rfl] at hv
    obtain rfl := Option.some.inj hv
    rfl
  rw [if_neg e2]
  refine hc j v ?_
  rcases Nat.lt_or_ge j (l.length + 1) with hlt | hge
  · rw [List.getElem?_append_left (by rw [dwn_len]; omega)] at hv ⊢
    rw [dwn_swap x hy, if_neg (Ne.symm e), if_neg (Ne.symm e2)] at hv
    exact hv
  · rw [List.getElem?_append_right (by rw [dwn_len]; omega), dwn_len] at hv ⊢
    exact hv
def PIq (g : Nat) (q : Nat) (n : Nat) (c : Nat) (m : Nat) (p : Nat) (z : Nat) (y : Nat) (v : Int) (bv : Bool) (i : Nat) (x : Value) : Prop := match i with
  | 0 => x = .int .i64 m
  | 1 => x = .int .i64 0
  | 2 => x = .bool true
  | 3 => x = .bool true
  | 4 => x = .func (.func 51) #[.pointer (some ⟨g, 0, none⟩)] #[]
  | 5 => x = .slice (some ⟨q, 0, none⟩) n c
  | 6 => x = .int .i64 m
  | 7 => x = .pointer (some ⟨q, m, none⟩)
  | 8 => x = .int .i64 z
  | 9 => x = .slice (some ⟨q, 0, none⟩) n c
  | 10 => x = .int .i64 m
  | 11 => x = .int .i64 p
  | 12 => x = .pointer (some ⟨q, p, none⟩)
  | 13 => x = .int .i64 y
  | 14 => x = .int .i64 v
  | 15 => x = .bool bv
  | 16 => x = .bool bv
  | _ => True
def IIq (F : Value → Value → Value → Value → Value → Value → Value → Value → Value → Value → Value → Value → Value → Value → Value → Value → Value → Array Value) (g : Nat) (q : Nat) (n : Nat) (c : Nat) (m : Nat) (p : Nat) (z : Nat) (y : Nat) (v : Int) (bv : Bool) (Wi : (Nat → Bool) → World → Prop) (L : Nat → Bool) (ac : Act) (W : World) : Prop :=
  ∃ x0 x1 x2 x3 x4 x5 x6 x7 x8 x9 x10 x11 x12 x13 x14 x15 x16, ac = ⟨F x0 x1 x2 x3 x4 x5 x6 x7 x8 x9 x10 x11 x12 x13 x14 x15 x16, []⟩ ∧ (∀ jj, L jj = true → PIq g q n c m p z y v bv jj ([x0, x1, x2, x3, x4, x5, x6, x7, x8, x9, x10, x11, x12, x13, x14, x15, x16].getD jj undef)) ∧ Wi L W
def PIz (q : Nat) (i : Nat) (x : Value) : Prop := match i with
  | 0 => x = .int .i64 0
  | 1 => x = .int .i64 0
  | 2 => x = .bool false
  | 3 => x = .bool false
  | 4 => x = undef
  | 5 => x = undef
  | 6 => x = undef
  | 7 => x = undef
  | 8 => x = undef
  | 9 => x = undef
  | 10 => x = undef
  | 11 => x = undef
  | 12 => x = undef
  | 13 => x = undef
  | 14 => x = undef
  | 15 => x = undef
  | 16 => x = .bool false
  | _ => True
def IIz (F : Value → Value → Value → Value → Value → Value → Value → Value → Value → Value → Value → Value → Value → Value → Value → Value → Value → Array Value) (q : Nat) (Wi : (Nat → Bool) → World → Prop) (L : Nat → Bool) (ac : Act) (W : World) : Prop :=
  ∃ x0 x1 x2 x3 x4 x5 x6 x7 x8 x9 x10 x11 x12 x13 x14 x15 x16, ac = ⟨F x0 x1 x2 x3 x4 x5 x6 x7 x8 x9 x10 x11 x12 x13 x14 x15 x16, []⟩ ∧ (∀ jj, L jj = true → PIz q jj ([x0, x1, x2, x3, x4, x5, x6, x7, x8, x9, x10, x11, x12, x13, x14, x15, x16].getD jj undef)) ∧ Wi L W
def PIs (q : Nat) (n : Nat) (c : Nat) (m : Nat) (p : Nat) (z : Nat) (y : Nat) (i : Nat) (x : Value) : Prop := match i with
  | 0 => x = .slice (some ⟨q, 0, none⟩) n c
  | 1 => x = .int .i64 m
  | 2 => x = .slice (some ⟨q, 0, none⟩) n c
  | 3 => x = .int .i64 m
  | 4 => x = .int .i64 p
  | 5 => x = .slice (some ⟨q, 0, none⟩) n c
  | 6 => x = .int .i64 m
  | 7 => x = .int .i64 p
  | 8 => x = .pointer (some ⟨q, p, none⟩)
  | 9 => x = .int .i64 y
  | 10 => x = .slice (some ⟨q, 0, none⟩) n c
  | 11 => x = .int .i64 m
  | 12 => x = .pointer (some ⟨q, m, none⟩)
  | 13 => x = .int .i64 z
  | 14 => x = .pointer (some ⟨q, m, none⟩)
  | 16 => x = .pointer (some ⟨q, p, none⟩)
  | _ => True
def IIs (F : Value → Value → Value → Value → Value → Value → Value → Value → Value → Value → Value → Value → Value → Value → Value → Value → Value → Value → Array Value) (q : Nat) (n : Nat) (c : Nat) (m : Nat) (p : Nat) (z : Nat) (y : Nat) (Wi : (Nat → Bool) → World → Prop) (L : Nat → Bool) (ac : Act) (W : World) : Prop :=
  ∃ x0 x1 x2 x3 x4 x5 x6 x7 x8 x9 x10 x11 x12 x13 x14 x15 x16 x17, ac = ⟨F x0 x1 x2 x3 x4 x5 x6 x7 x8 x9 x10 x11 x12 x13 x14 x15 x16 x17, []⟩ ∧ (∀ jj, L jj = true → PIs q n c m p z y jj ([x0, x1, x2, x3, x4, x5, x6, x7, x8, x9, x10, x11, x12, x13, x14, x15, x16, x17].getD jj undef)) ∧ Wi L W
set_option maxRecDepth 100000 in
set_option maxHeartbeats 16000000 in
theorem insSort_any (A : Ar) (B : Nat) (w0 : World) (H : Arena w0 B A) (T : Nat → Tm) (q n c : Nat) (zs : List Nat) (hn : zs.length = n) (hn2 : n ≤ 12) (hq : w0.heap.size ≤ q)
    (hz : ∀ z ∈ zs, ∃ nd, A.N[z]? = some nd ∧ nd.t = T z ∧ nd.t.a ≤ 2147483647 ∧ nd.t.b ≤ 2147483647 ∧ nd.v.oneCell' = true) (w : World) (hB : Below w0.heap.size w0 w) (hD : Dat w q zs) :
    Calls Tryz.prog 115 #[.slice (some ⟨q, 0, none⟩) n c, .int .i64 0, .int .i64 n, .func (.func 51) #[.pointer (some ⟨A.g, 0, none⟩)] #[]] w fun r w' => r = .returned (.tuple #[]) ∧ (Below w0.heap.size w0 w' ∧ Dat w' q (insAllI T [] zs)) := by
  have hz1 := Lib.hid hz
  have hB1 := Lib.hid hB
  have hD1 : Hid (Dat w q (insAllI T [] (zs.take 1) ++ zs.drop 1)) := by
    have e : insAllI T [] (zs.take 1) ++ zs.drop 1 = zs := by
      cases zs with
      | nil => rfl
      | cons a r => rfl
    unfold Hid
    rw [e]
    exact hD
  have H1 := Lib.hid H
  have hnl := Lib.hid hn
  have hdone : Hid (∀ k, n ≤ k → insAllI T [] (zs.take k) ++ zs.drop k = insAllI T [] zs) := fun k hk => by rw [List.take_of_length_le (by omega), List.drop_eq_nil_of_le (by omega), List.append_nil]
  have hql0 := hD.lt
  clear hz hB hD H hn
  go_enter Tryz.func115, Tryz.ntmps115
  go_wp2_with fail
  go_loopw [8] (fun i wr => ∃ k : Nat, 1 ≤ k ∧ (k ≤ n ∨ k = 1) ∧ i = .int .i64 k ∧ Hid (Below w0.heap.size w0 wr) ∧ Hid (Dat wr q (insAllI T [] (zs.take k) ++ zs.drop k))) (fun i _ => n - (intOf i).toNat)
  case atStart => exact ⟨1, Nat.le_refl _, .inr rfl, rfl, hB1, hD1⟩
  case round =>
    clear hB1 hD1
    obtain ⟨k, hk, hkn, rfl, hB, hD⟩ := hrel
    by_cases hlt : k < n
    · obtain ⟨x, hx⟩ : ∃ x, zs[k]? = some x := ⟨zs[k]'(by have := hnl.out; omega), List.getElem?_eq_getElem (by have := hnl.out; omega)⟩
      have hx2 := Lib.hid hx
      have hll : (insAllI T [] (zs.take k)).length = k := by
        have := hnl.out
        rw [insAllI_len, List.length_take]
        simp
        omega
      have hsrt := insAllI_srt (T := T) (zs.take k) List.Pairwise.nil
      have hmem : ∀ y ∈ insAllI T [] (zs.take k), y ∈ zs := fun y hy => by
        rcases insAllI_mem.1 hy with hy | hy
        · exact List.mem_of_mem_take hy
        · cases hy
      have hnext := insAllI_snoc (T := T) [] (zs.take k) x
      rw [← take_succ_of hx] at hnext
      have hD' : Dat wr q (dwn x (insAllI T [] (zs.take k)) k ++ zs.drop (k + 1)) := by
        have e := dwn_top x (insAllI T [] (zs.take k))
        rw [hll] at e
        rw [e, List.append_assoc]
        have hdr : [x] ++ zs.drop (k + 1) = zs.drop k := by
          rw [List.drop_eq_getElem_cons (i := k) (by have := hnl.out; omega), (List.getElem?_eq_some_iff.1 hx).2]
          rfl
        rw [hdr]
        exact hD.out
      generalize insAllI T [] (zs.take k) = l at *
      have hd0 : Hid (∀ y ∈ l.drop k, ¬ nle (T y) (T x)) := by
        intro y hy
        rw [List.drop_eq_nil_of_le (by omega)] at hy
        cases hy
      have hD2 := Lib.hid hD'
      have hnext := Lib.hid hnext
      have hmem := Lib.hid hmem
      have hsrt := Lib.hid hsrt
      have hll2 := Lib.hid hll
      clear hx hD hD' hll
      go_wp2_with fail
      go_loopw [9] (fun j wq => ∃ m : Nat, m ≤ k ∧ j = .int .i64 m ∧ Hid (Below w0.heap.size w0 wq) ∧ Hid (Dat wq q (dwn x l m ++ zs.drop (k + 1))) ∧ Hid (∀ y ∈ l.drop m, ¬ nle (T y) (T x))) (fun j _ => (intOf j).toNat)
      case atStart => exact ⟨k, Nat.le_refl _, rfl, hB, hD2, hd0⟩
      case round =>
        clear hB hD2 hd0
        obtain ⟨m, hm, rfl, hB1, hD1, hd1⟩ := hrel
        have hql := hD1.out.lt
        by_cases h0 : m = 0
        · subst h0
          go_upto_region 4 with fail
          refine region_inv (IIz (fun x0 x1 x2 x3 x4 x5 x6 x7 x8 x9 x10 x11 x12 x13 x14 x15 x16 => #[.slice (some ⟨q, 0, none⟩) n c, .int .i64 0, .int .i64 n, .func (.func 51) #[.pointer (some ⟨A.g, 0, none⟩)] #[], undef, undef, undef, undef, .int .i64 k, .int .i64 0, .int .i64 0, .int .i64 1, .int .i64 k, .int .i64 n, .bool true, u15, u16, .int .i64 k, x0, x1, x2, x3, x4, x5, x6, x7, x8, x9, x10, x11, x12, x13, x14, x15, x16, u35, u36, u37, u38, u39, u40, u41, u42, u43, u44, u45, u46, u47, u48, u49, u50, u51, u52]) q (fun L W => Below wr.heap.size wr W)) ?hlt ?hstep ?hdone rfl (by kernel_rfl) ?start
          case start => exact ⟨_, _, _, _, _, _, _, _, _, _, _, _, _, _, _, _, _, rfl, inv_start (n := 17) (fun _ => trivial), drewN_below 1⟩
          case hlt =>
            intro i o ho
            have hi := (Array.getElem?_eq_some_iff.1 ho).1
            match i, hi with
            | 0, _ => obtain rfl := Option.some.inj ho; decide
            | 1, _ => obtain rfl := Option.some.inj ho; decide
            | 2, _ => obtain rfl := Option.some.inj ho; decide
            | 3, _ => obtain rfl := Option.some.inj ho; decide
            | 4, _ => obtain rfl := Option.some.inj ho; decide
            | 5, _ => obtain rfl := Option.some.inj ho; decide
            | 6, _ => obtain rfl := Option.some.inj ho; decide
            | 7, _ => obtain rfl := Option.some.inj ho; decide
            | 8, _ => obtain rfl := Option.some.inj ho; decide
            | 9, _ => obtain rfl := Option.some.inj ho; decide
            | 10, _ => obtain rfl := Option.some.inj ho; decide
            | 11, _ => obtain rfl := Option.some.inj ho; decide
            | 12, _ => obtain rfl := Option.some.inj ho; decide
            | 13, _ => obtain rfl := Option.some.inj ho; decide
            | 14, _ => obtain rfl := Option.some.inj ho; decide
            | 15, _ => obtain rfl := Option.some.inj ho; decide
            | 16, _ => obtain rfl := Option.some.inj ho; decide
          case hstep =>
            rintro L ac W i o ⟨x0, x1, x2, x3, x4, x5, x6, x7, x8, x9, x10, x11, x12, x13, x14, x15, x16, rfl, hF, hW⟩ ho hLi hd K hK
            have hF := Lib.hid hF
            have hW := Lib.hid hW
            have hK := Lib.hid hK
            have hi := (Array.getElem?_eq_some_iff.1 ho).1
            match i, hi with
            | 0, _ =>
              obtain rfl := Option.some.inj ho
              clear hd ho hi hLi
              go_simp
              exact hK.out _ _ ⟨_, x1, x2, x3, x4, x5, x6, x7, x8, x9, x10, x11, x12, x13, x14, x15, x16, rfl, inv_step (i := 0) (x' := .int .i64 0) hF.out rfl (show 0 < 17 by decide), hW.out⟩
            | 1, _ =>
              obtain rfl := Option.some.inj ho
              clear hd ho hi hLi
              go_simp
              exact hK.out _ _ ⟨x0, _, x2, x3, x4, x5, x6, x7, x8, x9, x10, x11, x12, x13, x14, x15, x16, rfl, inv_step (i := 1) (x' := .int .i64 0) hF.out rfl (show 1 < 17 by decide), hW.out⟩
            | 2, _ =>
              obtain rfl := Option.some.inj ho
              have l0 : L 0 = true := dep_of hd (n := 0) (by decide)
              obtain rfl := (hF.out 0 l0 : x0 = _)
              have l1 : L 1 = true := dep_of hd (n := 1) (by decide)
              obtain rfl := (hF.out 1 l1 : x1 = _)
              clear hd ho hi hLi l0 l1
              go_simp
              exact hK.out _ _ ⟨_, _, _, x3, x4, x5, x6, x7, x8, x9, x10, x11, x12, x13, x14, x15, x16, rfl, inv_step (i := 2) (x' := .bool false) hF.out rfl (show 2 < 17 by decide), hW.out⟩
            | 3, _ =>
              obtain rfl := Option.some.inj ho
              have l2 : L 2 = true := dep_of hd (n := 2) (by decide)
              obtain rfl := (hF.out 2 l2 : x2 = _)
              clear hd ho hi hLi l2
              go_simp
              exact hK.out _ _ ⟨x0, x1, _, _, x4, x5, x6, x7, x8, x9, x10, x11, x12, x13, x14, x15, x16, rfl, inv_step (i := 3) (x' := .bool false) hF.out rfl (show 3 < 17 by decide), hW.out⟩
            | 4, _ =>
              obtain rfl := Option.some.inj ho
              have l3 : L 3 = true := dep_of hd (n := 3) (by decide)
              obtain rfl := (hF.out 3 l3 : x3 = _)
              clear hd ho hi hLi l3
              go_simp
              exact hK.out _ _ ⟨x0, x1, x2, _, _, x5, x6, x7, x8, x9, x10, x11, x12, x13, x14, x15, x16, rfl, inv_step (i := 4) (x' := undef) hF.out rfl (show 4 < 17 by decide), hW.out⟩
            | 5, _ =>
              obtain rfl := Option.some.inj ho
              have l3 : L 3 = true := dep_of hd (n := 3) (by decide)
              obtain rfl := (hF.out 3 l3 : x3 = _)
              clear hd ho hi hLi l3
              go_simp
              exact hK.out _ _ ⟨x0, x1, x2, _, x4, _, x6, x7, x8, x9, x10, x11, x12, x13, x14, x15, x16, rfl, inv_step (i := 5) (x' := undef) hF.out rfl (show 5 < 17 by decide), hW.out⟩
            | 6, _ =>
              obtain rfl := Option.some.inj ho
              have l3 : L 3 = true := dep_of hd (n := 3) (by decide)
              obtain rfl := (hF.out 3 l3 : x3 = _)
              clear hd ho hi hLi l3
              go_simp
              exact hK.out _ _ ⟨x0, x1, x2, _, x4, x5, _, x7, x8, x9, x10, x11, x12, x13, x14, x15, x16, rfl, inv_step (i := 6) (x' := undef) hF.out rfl (show 6 < 17 by decide), hW.out⟩
            | 7, _ =>
              obtain rfl := Option.some.inj ho
              have l3 : L 3 = true := dep_of hd (n := 3) (by decide)
              obtain rfl := (hF.out 3 l3 : x3 = _)
              clear hd ho hi hLi l3
              go_simp
              exact hK.out _ _ ⟨x0, x1, x2, _, x4, x5, x6, _, x8, x9, x10, x11, x12, x13, x14, x15, x16, rfl, inv_step (i := 7) (x' := undef) hF.out rfl (show 7 < 17 by decide), hW.out⟩
            | 8, _ =>
              obtain rfl := Option.some.inj ho
              have l3 : L 3 = true := dep_of hd (n := 3) (by decide)
              obtain rfl := (hF.out 3 l3 : x3 = _)
              clear hd ho hi hLi l3
              go_simp
              exact hK.out _ _ ⟨x0, x1, x2, _, x4, x5, x6, x7, _, x9, x10, x11, x12, x13, x14, x15, x16, rfl, inv_step (i := 8) (x' := undef) hF.out rfl (show 8 < 17 by decide), hW.out⟩
            | 9, _ =>
              obtain rfl := Option.some.inj ho
              have l3 : L 3 = true := dep_of hd (n := 3) (by decide)
              obtain rfl := (hF.out 3 l3 : x3 = _)
              clear hd ho hi hLi l3
              go_simp
              exact hK.out _ _ ⟨x0, x1, x2, _, x4, x5, x6, x7, x8, _, x10, x11, x12, x13, x14, x15, x16, rfl, inv_step (i := 9) (x' := undef) hF.out rfl (show 9 < 17 by decide), hW.out⟩
            | 10, _ =>
              obtain rfl := Option.some.inj ho
              have l3 : L 3 = true := dep_of hd (n := 3) (by decide)
              obtain rfl := (hF.out 3 l3 : x3 = _)
              clear hd ho hi hLi l3
              go_simp
              exact hK.out _ _ ⟨x0, x1, x2, _, x4, x5, x6, x7, x8, x9, _, x11, x12, x13, x14, x15, x16, rfl, inv_step (i := 10) (x' := undef) hF.out rfl (show 10 < 17 by decide), hW.out⟩
            | 11, _ =>
              obtain rfl := Option.some.inj ho
              have l3 : L 3 = true := dep_of hd (n := 3) (by decide)
              obtain rfl := (hF.out 3 l3 : x3 = _)
              clear hd ho hi hLi l3
              go_simp
              exact hK.out _ _ ⟨x0, x1, x2, _, x4, x5, x6, x7, x8, x9, x10, _, x12, x13, x14, x15, x16, rfl, inv_step (i := 11) (x' := undef) hF.out rfl (show 11 < 17 by decide), hW.out⟩
            | 12, _ =>
              obtain rfl := Option.some.inj ho
              have l3 : L 3 = true := dep_of hd (n := 3) (by decide)
              obtain rfl := (hF.out 3 l3 : x3 = _)
              clear hd ho hi hLi l3
              go_simp
              exact hK.out _ _ ⟨x0, x1, x2, _, x4, x5, x6, x7, x8, x9, x10, x11, _, x13, x14, x15, x16, rfl, inv_step (i := 12) (x' := undef) hF.out rfl (show 12 < 17 by decide), hW.out⟩
            | 13, _ =>
              obtain rfl := Option.some.inj ho
              have l3 : L 3 = true := dep_of hd (n := 3) (by decide)
              obtain rfl := (hF.out 3 l3 : x3 = _)
              clear hd ho hi hLi l3
              go_simp
              exact hK.out _ _ ⟨x0, x1, x2, _, x4, x5, x6, x7, x8, x9, x10, x11, x12, _, x14, x15, x16, rfl, inv_step (i := 13) (x' := undef) hF.out rfl (show 13 < 17 by decide), hW.out⟩
            | 14, _ =>
              obtain rfl := Option.some.inj ho
              have l3 : L 3 = true := dep_of hd (n := 3) (by decide)
              obtain rfl := (hF.out 3 l3 : x3 = _)
              clear hd ho hi hLi l3
              go_simp
              exact hK.out _ _ ⟨x0, x1, x2, _, x4, x5, x6, x7, x8, x9, x10, x11, x12, x13, _, x15, x16, rfl, inv_step (i := 14) (x' := undef) hF.out rfl (show 14 < 17 by decide), hW.out⟩
            | 15, _ =>
              obtain rfl := Option.some.inj ho
              have l3 : L 3 = true := dep_of hd (n := 3) (by decide)
              obtain rfl := (hF.out 3 l3 : x3 = _)
              clear hd ho hi hLi l3
              go_simp
              exact hK.out _ _ ⟨x0, x1, x2, _, x4, x5, x6, x7, x8, x9, x10, x11, x12, x13, x14, _, x16, rfl, inv_step (i := 15) (x' := undef) hF.out rfl (show 15 < 17 by decide), hW.out⟩
            | 16, _ =>
              obtain rfl := Option.some.inj ho
              have l3 : L 3 = true := dep_of hd (n := 3) (by decide)
              obtain rfl := (hF.out 3 l3 : x3 = _)
              have l15 : L 15 = true := dep_of hd (n := 15) (by decide)
              obtain rfl := (hF.out 15 l15 : x15 = _)
              clear hd ho hi hLi l3 l15
              go_simp
              exact hK.out _ _ ⟨x0, x1, x2, _, x4, x5, x6, x7, x8, x9, x10, x11, x12, x13, x14, _, _, rfl, inv_step (i := 16) (x' := .bool false) hF.out rfl (show 16 < 17 by decide), hW.out⟩
          case hdone =>
            rintro L ac W2 ⟨x0, x1, x2, x3, x4, x5, x6, x7, x8, x9, x10, x11, x12, x13, x14, x15, x16, rfl, hF, hW⟩ hall
            obtain rfl := (hF 0 (hall 0 (show 0 < 17 by decide)) : x0 = _)
            obtain rfl := (hF 1 (hall 1 (show 1 < 17 by decide)) : x1 = _)
            obtain rfl := (hF 2 (hall 2 (show 2 < 17 by decide)) : x2 = _)
            obtain rfl := (hF 3 (hall 3 (show 3 < 17 by decide)) : x3 = _)
            obtain rfl := (hF 4 (hall 4 (show 4 < 17 by decide)) : x4 = _)
            obtain rfl := (hF 5 (hall 5 (show 5 < 17 by decide)) : x5 = _)
            obtain rfl := (hF 6 (hall 6 (show 6 < 17 by decide)) : x6 = _)
            obtain rfl := (hF 7 (hall 7 (show 7 < 17 by decide)) : x7 = _)
            obtain rfl := (hF 8 (hall 8 (show 8 < 17 by decide)) : x8 = _)
            obtain rfl := (hF 9 (hall 9 (show 9 < 17 by decide)) : x9 = _)
            obtain rfl := (hF 10 (hall 10 (show 10 < 17 by decide)) : x10 = _)
            obtain rfl := (hF 11 (hall 11 (show 11 < 17 by decide)) : x11 = _)
            obtain rfl := (hF 12 (hall 12 (show 12 < 17 by decide)) : x12 = _)
            obtain rfl := (hF 13 (hall 13 (show 13 < 17 by decide)) : x13 = _)
            obtain rfl := (hF 14 (hall 14 (show 14 < 17 by decide)) : x14 = _)
            obtain rfl := (hF 15 (hall 15 (show 15 < 17 by decide)) : x15 = _)
            obtain rfl := (hF 16 (hall 16 (show 16 < 17 by decide)) : x16 = _)
            dsimp only
            have hR := hB1.out.trans (hW.mono hB1.out.size)
            have hDn := hD1.out.keep hW
            have he : dwn x l 0 = insAllI T [] (zs.take (k + 1)) := (dwn_ins hsrt.out hd1.out (.inl rfl)).symm.trans hnext.out.symm
            rw [he] at hDn
            have hRh := Lib.hid hR
            have hDh := Lib.hid hDn
            clear hF hall hW hR hDn he hB1 hD1
            go_wp2_with fail
            go_roundw
            case rel => exact ⟨k + 1, by omega, by omega, by go_num, hRh, hDh⟩
            case measure => simp [intOf]; omega
        · obtain ⟨p, hp⟩ : ∃ p, m = p + 1 := ⟨m - 1, by omega⟩
          have hmp : (m : Int) - 1 = (p : Int) := by omega
          have hwp : IntKind.i64.wrap (p : Int) = (p : Int) := by rw [IntKind.wrap_i64]; omega
          obtain ⟨y, hy⟩ : ∃ y, l[p]? = some y := ⟨l[p]'(by have := hll2.out; omega), List.getElem?_eq_getElem (by have := hll2.out; omega)⟩
          have hpl := (List.getElem?_eq_some_iff.1 hy).1
          have hcz := Lib.hid (hD1.out.cell (j := m) (x := x) (by rw [List.getElem?_append_left (by rw [dwn_len]; omega), dwn_at x l (by omega)]))
          have hcy := Lib.hid (hD1.out.cell (j := p) (x := y) (by rw [List.getElem?_append_left (by rw [dwn_len]; omega), hp, dwn_low x l hpl]; exact hy))
          obtain ⟨n1, f1, f2, f3, f4, f5⟩ := hz1.out x (List.mem_of_getElem? hx2.out)
          obtain ⟨n2, g1, g2, g3, g4, g5⟩ := hz1.out y (hmem.out y (List.mem_of_getElem? hy))
          have hneg := cmpT_neg (T x) (T y)
          have cBf := fun (W : World) (hW : Below w0.heap.size w0 W) => before_any A B W (H1.out.keep hW) x y n1 n2 f1 g1 ⟨f3, f4⟩ ⟨g3, g4⟩ f5 g5
          rw [f2, g2] at cBf
          generalize cmpT (T x) (T y) = v at cBf hneg
          have cBf := Lib.hid cBf
          obtain ⟨bv, hbv⟩ : ∃ bv, decide (v < 0) = bv := ⟨_, rfl⟩
          have hyh := Lib.hid hy
          have hph := Lib.hid hp
          have hnegh := Lib.hid hneg
          have hm1 : 0 < m := by omega
          have hmn : m < n := by omega
          have hpn : p < n := by omega
          have hp1 : p < m := by omega
          clear hneg f1 f2 f3 f4 f5 g1 g2 g3 g4 g5 n1 n2 h0 hy hp hpl
          go_upto_region 4 with fail
          refine region_inv (IIq (fun x0 x1 x2 x3 x4 x5 x6 x7 x8 x9 x10 x11 x12 x13 x14 x15 x16 => #[.slice (some ⟨q, 0, none⟩) n c, .int .i64 0, .int .i64 n, .func (.func 51) #[.pointer (some ⟨A.g, 0, none⟩)] #[], undef, undef, undef, undef, .int .i64 k, .int .i64 m, .int .i64 0, .int .i64 1, .int .i64 k, .int .i64 n, .bool true, u15, u16, .int .i64 k, x0, x1, x2, x3, x4, x5, x6, x7, x8, x9, x10, x11, x12, x13, x14, x15, x16, u35, u36, u37, u38, u39, u40, u41, u42, u43, u44, u45, u46, u47, u48, u49, u50, u51, u52]) A.g q n c m p x y v bv (fun L W => Below wr.heap.size wr W)) ?hlt ?hstep ?hdone rfl (by kernel_rfl) ?start
          case start => exact ⟨_, _, _, _, _, _, _, _, _, _, _, _, _, _, _, _, _, rfl, inv_start (n := 17) (fun _ => trivial), drewN_below 1⟩
          case hlt =>
            intro i o ho
            have hi := (Array.getElem?_eq_some_iff.1 ho).1
            match i, hi with
            | 0, _ => obtain rfl := Option.some.inj ho; decide
            | 1, _ => obtain rfl := Option.some.inj ho; decide
            | 2, _ => obtain rfl := Option.some.inj ho; decide
            | 3, _ => obtain rfl := Option.some.inj ho; decide
            | 4, _ => obtain rfl := Option.some.inj ho; decide
            | 5, _ => obtain rfl := Option.some.inj ho; decide
            | 6, _ => obtain rfl := Option.some.inj ho; decide
            | 7, _ => obtain rfl := Option.some.inj ho; decide
            | 8, _ => obtain rfl := Option.some.inj ho; decide
            | 9, _ => obtain rfl := Option.some.inj ho; decide
            | 10, _ => obtain rfl := Option.some.inj ho; decide
            | 11, _ => obtain rfl := Option.some.inj ho; decide
            | 12, _ => obtain rfl := Option.some.inj ho; decide
            | 13, _ => obtain rfl := Option.some.inj ho; decide
            | 14, _ => obtain rfl := Option.some.inj ho; decide
            | 15, _ => obtain rfl := Option.some.inj ho; decide
            | 16, _ => obtain rfl := Option.some.inj ho; decide
          case hstep =>
            rintro L ac W i o ⟨x0, x1, x2, x3, x4, x5, x6, x7, x8, x9, x10, x11, x12, x13, x14, x15, x16, rfl, hF, hW⟩ ho hLi hd K hK
            have hF := Lib.hid hF
            have hW := Lib.hid hW
            have hK := Lib.hid hK
            have hi := (Array.getElem?_eq_some_iff.1 ho).1
            match i, hi with
            | 0, _ =>
              obtain rfl := Option.some.inj ho
              clear hd ho hi hLi
              go_simp
              exact hK.out _ _ ⟨_, x1, x2, x3, x4, x5, x6, x7, x8, x9, x10, x11, x12, x13, x14, x15, x16, rfl, inv_step (i := 0) (x' := .int .i64 m) hF.out rfl (show 0 < 17 by decide), hW.out⟩
            | 1, _ =>
              obtain rfl := Option.some.inj ho
              clear hd ho hi hLi
              go_simp
              exact hK.out _ _ ⟨x0, _, x2, x3, x4, x5, x6, x7, x8, x9, x10, x11, x12, x13, x14, x15, x16, rfl, inv_step (i := 1) (x' := .int .i64 0) hF.out rfl (show 1 < 17 by decide), hW.out⟩
            | 2, _ =>
              obtain rfl := Option.some.inj ho
              have l0 : L 0 = true := dep_of hd (n := 0) (by decide)
              obtain rfl := (hF.out 0 l0 : x0 = _)
              have l1 : L 1 = true := dep_of hd (n := 1) (by decide)
              obtain rfl := (hF.out 1 l1 : x1 = _)
              clear hd ho hi hLi l0 l1
              go_simp
              exact hK.out _ _ ⟨_, _, _, x3, x4, x5, x6, x7, x8, x9, x10, x11, x12, x13, x14, x15, x16, rfl, inv_step (i := 2) (x' := .bool true) hF.out rfl (show 2 < 17 by decide), hW.out⟩
            | 3, _ =>
              obtain rfl := Option.some.inj ho
              have l2 : L 2 = true := dep_of hd (n := 2) (by decide)
              obtain rfl := (hF.out 2 l2 : x2 = _)
              clear hd ho hi hLi l2
              go_simp
              exact hK.out _ _ ⟨x0, x1, _, _, x4, x5, x6, x7, x8, x9, x10, x11, x12, x13, x14, x15, x16, rfl, inv_step (i := 3) (x' := .bool true) hF.out rfl (show 3 < 17 by decide), hW.out⟩
            | 4, _ =>
              obtain rfl := Option.some.inj ho
              have l3 : L 3 = true := dep_of hd (n := 3) (by decide)
              obtain rfl := (hF.out 3 l3 : x3 = _)
              clear hd ho hi hLi l3
              go_simp
              exact hK.out _ _ ⟨x0, x1, x2, _, _, x5, x6, x7, x8, x9, x10, x11, x12, x13, x14, x15, x16, rfl, inv_step (i := 4) (x' := .func (.func 51) #[.pointer (some ⟨A.g, 0, none⟩)] #[]) hF.out rfl (show 4 < 17 by decide), hW.out⟩
            | 5, _ =>
              obtain rfl := Option.some.inj ho
              have l3 : L 3 = true := dep_of hd (n := 3) (by decide)
              obtain rfl := (hF.out 3 l3 : x3 = _)
              clear hd ho hi hLi l3
              go_simp
              exact hK.out _ _ ⟨x0, x1, x2, _, x4, _, x6, x7, x8, x9, x10, x11, x12, x13, x14, x15, x16, rfl, inv_step (i := 5) (x' := .slice (some ⟨q, 0, none⟩) n c) hF.out rfl (show 5 < 17 by decide), hW.out⟩
            | 6, _ =>
              obtain rfl := Option.some.inj ho
              have l3 : L 3 = true := dep_of hd (n := 3) (by decide)
              obtain rfl := (hF.out 3 l3 : x3 = _)
              clear hd ho hi hLi l3
              go_simp
              exact hK.out _ _ ⟨x0, x1, x2, _, x4, x5, _, x7, x8, x9, x10, x11, x12, x13, x14, x15, x16, rfl, inv_step (i := 6) (x' := .int .i64 m) hF.out rfl (show 6 < 17 by decide), hW.out⟩
            | 7, _ =>
              obtain rfl := Option.some.inj ho
              have l5 : L 5 = true := dep_of hd (n := 5) (by decide)
              obtain rfl := (hF.out 5 l5 : x5 = _)
              have l6 : L 6 = true := dep_of hd (n := 6) (by decide)
              obtain rfl := (hF.out 6 l6 : x6 = _)
              have l3 : L 3 = true := dep_of hd (n := 3) (by decide)
              obtain rfl := (hF.out 3 l3 : x3 = _)
              clear hd ho hi hLi l5 l6 l3
              go_simp
              exact hK.out _ _ ⟨x0, x1, x2, _, x4, _, _, _, x8, x9, x10, x11, x12, x13, x14, x15, x16, rfl, inv_step (i := 7) (x' := .pointer (some ⟨q, m, none⟩)) hF.out rfl (show 7 < 17 by decide), hW.out⟩
            | 8, _ =>
              obtain rfl := Option.some.inj ho
              have l7 : L 7 = true := dep_of hd (n := 7) (by decide)
              obtain rfl := (hF.out 7 l7 : x7 = _)
              have l3 : L 3 = true := dep_of hd (n := 3) (by decide)
              obtain rfl := (hF.out 3 l3 : x3 = _)
              have hcl : W.cell? ⟨q, m, none⟩ = some (.int .i64 x) := (hW.out.cell (p := ⟨q, m, none⟩) hql).trans hcz.out
              clear hd ho hi hLi l7 l3
              go_simp
              exact hK.out _ _ ⟨x0, x1, x2, _, x4, x5, x6, _, _, x9, x10, x11, x12, x13, x14, x15, x16, rfl, inv_step (i := 8) (x' := .int .i64 x) hF.out rfl (show 8 < 17 by decide), hW.out⟩
            | 9, _ =>
              obtain rfl := Option.some.inj ho
              have l3 : L 3 = true := dep_of hd (n := 3) (by decide)
              obtain rfl := (hF.out 3 l3 : x3 = _)
              clear hd ho hi hLi l3
              go_simp
              exact hK.out _ _ ⟨x0, x1, x2, _, x4, x5, x6, x7, x8, _, x10, x11, x12, x13, x14, x15, x16, rfl, inv_step (i := 9) (x' := .slice (some ⟨q, 0, none⟩) n c) hF.out rfl (show 9 < 17 by decide), hW.out⟩
            | 10, _ =>
              obtain rfl := Option.some.inj ho
              have l3 : L 3 = true := dep_of hd (n := 3) (by decide)
              obtain rfl := (hF.out 3 l3 : x3 = _)
              clear hd ho hi hLi l3
              go_simp
              exact hK.out _ _ ⟨x0, x1, x2, _, x4, x5, x6, x7, x8, x9, _, x11, x12, x13, x14, x15, x16, rfl, inv_step (i := 10) (x' := .int .i64 m) hF.out rfl (show 10 < 17 by decide), hW.out⟩
            | 11, _ =>
              obtain rfl := Option.some.inj ho
              have l10 : L 10 = true := dep_of hd (n := 10) (by decide)
              obtain rfl := (hF.out 10 l10 : x10 = _)
              have l3 : L 3 = true := dep_of hd (n := 3) (by decide)
              obtain rfl := (hF.out 3 l3 : x3 = _)
              clear hd ho hi hLi l10 l3
              go_simp
              exact hK.out _ _ ⟨x0, x1, x2, _, x4, x5, x6, x7, x8, x9, _, _, x12, x13, x14, x15, x16, rfl, inv_step (i := 11) (x' := .int .i64 p) hF.out rfl (show 11 < 17 by decide), hW.out⟩
            | 12, _ =>
              obtain rfl := Option.some.inj ho
              have l9 : L 9 = true := dep_of hd (n := 9) (by decide)
              obtain rfl := (hF.out 9 l9 : x9 = _)
              have l11 : L 11 = true := dep_of hd (n := 11) (by decide)
              obtain rfl := (hF.out 11 l11 : x11 = _)
              have l3 : L 3 = true := dep_of hd (n := 3) (by decide)
              obtain rfl := (hF.out 3 l3 : x3 = _)
              clear hd ho hi hLi l9 l11 l3
              go_simp
              exact hK.out _ _ ⟨x0, x1, x2, _, x4, x5, x6, x7, x8, _, x10, _, _, x13, x14, x15, x16, rfl, inv_step (i := 12) (x' := .pointer (some ⟨q, p, none⟩)) hF.out rfl (show 12 < 17 by decide), hW.out⟩
            | 13, _ =>
              obtain rfl := Option.some.inj ho
              have l12 : L 12 = true := dep_of hd (n := 12) (by decide)
              obtain rfl := (hF.out 12 l12 : x12 = _)
              have l3 : L 3 = true := dep_of hd (n := 3) (by decide)
              obtain rfl := (hF.out 3 l3 : x3 = _)
              have hcl : W.cell? ⟨q, p, none⟩ = some (.int .i64 y) := (hW.out.cell (p := ⟨q, p, none⟩) hql).trans hcy.out
              clear hd ho hi hLi l12 l3
              go_simp
              exact hK.out _ _ ⟨x0, x1, x2, _, x4, x5, x6, x7, x8, x9, x10, x11, _, _, x14, x15, x16, rfl, inv_step (i := 13) (x' := .int .i64 y) hF.out rfl (show 13 < 17 by decide), hW.out⟩
            | 14, _ =>
              obtain rfl := Option.some.inj ho
              have l4 : L 4 = true := dep_of hd (n := 4) (by decide)
              obtain rfl := (hF.out 4 l4 : x4 = _)
              have l8 : L 8 = true := dep_of hd (n := 8) (by decide)
              obtain rfl := (hF.out 8 l8 : x8 = _)
              have l13 : L 13 = true := dep_of hd (n := 13) (by decide)
              obtain rfl := (hF.out 13 l13 : x13 = _)
              have l3 : L 3 = true := dep_of hd (n := 3) (by decide)
              obtain rfl := (hF.out 3 l3 : x3 = _)
              have cb := Lib.hid (cBf.out W (hB1.out.trans (hW.out.mono hB1.out.size)))
              clear hd ho hi hLi l4 l8 l13 l3
              go_simp
              go_at_call 51
              refine cb.out.mono ?_
              rintro r w3 ⟨rfl, hb3⟩
              exact hK.out _ _ ⟨x0, x1, x2, _, _, x5, x6, x7, _, x9, x10, x11, x12, _, _, x15, x16, rfl, inv_step (i := 14) (x' := .int .i64 v) hF.out rfl (show 14 < 17 by decide), hW.out.trans (hb3.mono hW.out.size)⟩
            | 15, _ =>
              obtain rfl := Option.some.inj ho
              have l14 : L 14 = true := dep_of hd (n := 14) (by decide)
              obtain rfl := (hF.out 14 l14 : x14 = _)
              have l3 : L 3 = true := dep_of hd (n := 3) (by decide)
              obtain rfl := (hF.out 3 l3 : x3 = _)
              clear hd ho hi hLi l14 l3
              go_simp
              exact hK.out _ _ ⟨x0, x1, x2, _, x4, x5, x6, x7, x8, x9, x10, x11, x12, x13, _, _, x16, rfl, inv_step (i := 15) (x' := .bool bv) hF.out rfl (show 15 < 17 by decide), hW.out⟩
            | 16, _ =>
              obtain rfl := Option.some.inj ho
              have l3 : L 3 = true := dep_of hd (n := 3) (by decide)
              obtain rfl := (hF.out 3 l3 : x3 = _)
              have l15 : L 15 = true := dep_of hd (n := 15) (by decide)
              obtain rfl := (hF.out 15 l15 : x15 = _)
              clear hd ho hi hLi l3 l15
              go_simp
              exact hK.out _ _ ⟨x0, x1, x2, _, x4, x5, x6, x7, x8, x9, x10, x11, x12, x13, x14, _, _, rfl, inv_step (i := 16) (x' := .bool bv) hF.out rfl (show 16 < 17 by decide), hW.out⟩
          case hdone =>
            rintro L ac W2 ⟨x0, x1, x2, x3, x4, x5, x6, x7, x8, x9, x10, x11, x12, x13, x14, x15, x16, rfl, hF, hW⟩ hall
            obtain rfl := (hF 0 (hall 0 (show 0 < 17 by decide)) : x0 = _)
            obtain rfl := (hF 1 (hall 1 (show 1 < 17 by decide)) : x1 = _)
            obtain rfl := (hF 2 (hall 2 (show 2 < 17 by decide)) : x2 = _)
            obtain rfl := (hF 3 (hall 3 (show 3 < 17 by decide)) : x3 = _)
            obtain rfl := (hF 4 (hall 4 (show 4 < 17 by decide)) : x4 = _)
            obtain rfl := (hF 5 (hall 5 (show 5 < 17 by decide)) : x5 = _)
            obtain rfl := (hF 6 (hall 6 (show 6 < 17 by decide)) : x6 = _)
            obtain rfl := (hF 7 (hall 7 (show 7 < 17 by decide)) : x7 = _)
            obtain rfl := (hF 8 (hall 8 (show 8 < 17 by decide)) : x8 = _)
            obtain rfl := (hF 9 (hall 9 (show 9 < 17 by decide)) : x9 = _)
            obtain rfl := (hF 10 (hall 10 (show 10 < 17 by decide)) : x10 = _)
            obtain rfl := (hF 11 (hall 11 (show 11 < 17 by decide)) : x11 = _)
            obtain rfl := (hF 12 (hall 12 (show 12 < 17 by decide)) : x12 = _)
            obtain rfl := (hF 13 (hall 13 (show 13 < 17 by decide)) : x13 = _)
            obtain rfl := (hF 14 (hall 14 (show 14 < 17 by decide)) : x14 = _)
            obtain rfl := (hF 15 (hall 15 (show 15 < 17 by decide)) : x15 = _)
            obtain rfl := (hF 16 (hall 16 (show 16 < 17 by decide)) : x16 = _)
            dsimp only
            have hR := hB1.out.trans (hW.mono hB1.out.size)
            have hDn := hD1.out.keep hW
            have hRh := Lib.hid hR
            have hDh := Lib.hid hDn
            clear hF hall hW hR hDn hB1 hD1 cBf hcz hcy
            cases bv with
            | false =>
              have hnn : nle (T y) (T x) := by
                have h1 := hnegh.out
                have h2 : ¬ v < 0 := of_decide_eq_false hbv
                exact Decidable.not_not.1 fun h3 => h2 (h1.2 h3)
              have he : dwn x l m = insAllI T [] (zs.take (k + 1)) := (dwn_ins hsrt.out hd1.out (.inr ⟨y, by rw [hph.out]; exact hyh.out, hnn⟩)).symm.trans hnext.out.symm
              rw [he] at hDh
              clear hbv hnn he
              go_wp2_with fail
              go_roundw
              case rel => exact ⟨k + 1, by omega, by omega, by go_num, hRh, hDh⟩
              case measure => simp [intOf]; omega
            | true =>
              have hnn : ¬ nle (T y) (T x) := hnegh.out.1 (of_decide_eq_true hbv)
              have hd2 := Lib.hid (dwn_drop hyh.out (by rw [← hph.out]; exact hd1.out) hnn)
              obtain ⟨cur, hrow, hcur⟩ := hDh.out
              have hpl := (List.getElem?_eq_some_iff.1 hyh.out).1
              have hcm : cur[m]? = some (.int .i64 x) := hcur m x (by rw [List.getElem?_append_left (by rw [dwn_len]; omega), dwn_at x l (by have := hph.out; omega)])
              have hcp : cur[p]? = some (.int .i64 y) := hcur p y (by rw [List.getElem?_append_left (by rw [dwn_len]; omega), hph.out, dwn_low x l hpl]; exact hyh.out)
              have hsw := dat_swap (r := zs.drop (k + 1)) hyh.out (by rw [← hph.out]; exact hcur)
              rw [← hph.out] at hsw
              have hcm := Lib.hid hcm
              have hcp := Lib.hid hcp
              have hrow := Lib.hid hrow
              have hsw := Lib.hid hsw
              clear hnn hbv hcur hpl hDh hd1
              go_upto_region 6 with fail
              refine region_inv (IIs (fun x0 x1 x2 x3 x4 x5 x6 x7 x8 x9 x10 x11 x12 x13 x14 x15 x16 x17 => #[.slice (some ⟨q, 0, none⟩) n c, .int .i64 0, .int .i64 n, .func (.func 51) #[.pointer (some ⟨A.g, 0, none⟩)] #[], undef, undef, undef, undef, .int .i64 k, .int .i64 m, .int .i64 0, .int .i64 1, .int .i64 k, .int .i64 n, .bool true, u15, u16, .int .i64 k, .int .i64 m, .int .i64 0, .bool true, .bool true, .func (.func 51) #[.pointer (some ⟨A.g, 0, none⟩)] #[], .slice (some ⟨q, 0, none⟩) n c, .int .i64 m, .pointer (some ⟨q, m, none⟩), .int .i64 x, .slice (some ⟨q, 0, none⟩) n c, .int .i64 m, .int .i64 p, .pointer (some ⟨q, p, none⟩), .int .i64 y, .int .i64 v, .bool true, .bool true, u35, u36, x0, x1, x2, x3, x4, x5, x6, x7, x8, x9, x10, x11, x12, x13, x14, x16]) q n c m p x y (fun L W => W.heap[q]? = some (.cells (bif L 17 then (cur.setIfInBounds m (.int .i64 y)).setIfInBounds p (.int .i64 x) else bif L 15 then cur.setIfInBounds m (.int .i64 y) else cur) 33 (0, 0)) ∧ Below w0.heap.size w0 W ∧ (L 15 = true → L 9 = true ∧ L 13 = true) ∧ (L 17 = true → L 15 = true))) ?hlt ?hstep ?hdone rfl (by kernel_rfl) ?start
              case start => exact ⟨_, _, _, _, _, _, _, _, _, _, _, _, _, _, _, undef, _, undef, rfl, inv_start (n := 18) (fun _ => trivial), ⟨hrow.out, hRh.out.trans (drewN_below 1 |>.mono hRh.out.size), fun h => absurd h (inv_not (n := 18) (i := 15) (by decide)), fun h => absurd h (inv_not (n := 18) (i := 17) (by decide))⟩⟩
              case hlt =>
                intro i o ho
                have hi := (Array.getElem?_eq_some_iff.1 ho).1
                match i, hi with
                | 0, _ => obtain rfl := Option.some.inj ho; decide
                | 1, _ => obtain rfl := Option.some.inj ho; decide
                | 2, _ => obtain rfl := Option.some.inj ho; decide
                | 3, _ => obtain rfl := Option.some.inj ho; decide
                | 4, _ => obtain rfl := Option.some.inj ho; decide
                | 5, _ => obtain rfl := Option.some.inj ho; decide
                | 6, _ => obtain rfl := Option.some.inj ho; decide
                | 7, _ => obtain rfl := Option.some.inj ho; decide
                | 8, _ => obtain rfl := Option.some.inj ho; decide
                | 9, _ => obtain rfl := Option.some.inj ho; decide
                | 10, _ => obtain rfl := Option.some.inj ho; decide
                | 11, _ => obtain rfl := Option.some.inj ho; decide
                | 12, _ => obtain rfl := Option.some.inj ho; decide
                | 13, _ => obtain rfl := Option.some.inj ho; decide
                | 14, _ => obtain rfl := Option.some.inj ho; decide
                | 15, _ => obtain rfl := Option.some.inj ho; decide
                | 16, _ => obtain rfl := Option.some.inj ho; decide
                | 17, _ => obtain rfl := Option.some.inj ho; decide
              case hstep =>
                rintro L ac W i o ⟨x0, x1, x2, x3, x4, x5, x6, x7, x8, x9, x10, x11, x12, x13, x14, x15, x16, x17, rfl, hF, hW⟩ ho hLi hd K hK
                have hF := Lib.hid hF
                have hW := Lib.hid hW
                have hK := Lib.hid hK
                have hi := (Array.getElem?_eq_some_iff.1 ho).1
                match i, hi with
                | 0, _ =>
                  obtain rfl := Option.some.inj ho
                  clear hd ho hi hLi
                  go_simp
                  exact hK.out _ _ ⟨_, x1, x2, x3, x4, x5, x6, x7, x8, x9, x10, x11, x12, x13, x14, x15, x16, x17, rfl, inv_step (i := 0) (x' := .slice (some ⟨q, 0, none⟩) n c) hF.out rfl (show 0 < 18 by decide), hW.out⟩
                | 1, _ =>
                  obtain rfl := Option.some.inj ho
                  clear hd ho hi hLi
                  go_simp
                  exact hK.out _ _ ⟨x0, _, x2, x3, x4, x5, x6, x7, x8, x9, x10, x11, x12, x13, x14, x15, x16, x17, rfl, inv_step (i := 1) (x' := .int .i64 m) hF.out rfl (show 1 < 18 by decide), hW.out⟩
                | 2, _ =>
                  obtain rfl := Option.some.inj ho
                  clear hd ho hi hLi
                  go_simp
                  exact hK.out _ _ ⟨x0, x1, _, x3, x4, x5, x6, x7, x8, x9, x10, x11, x12, x13, x14, x15, x16, x17, rfl, inv_step (i := 2) (x' := .slice (some ⟨q, 0, none⟩) n c) hF.out rfl (show 2 < 18 by decide), hW.out⟩
                | 3, _ =>
                  obtain rfl := Option.some.inj ho
                  clear hd ho hi hLi
                  go_simp
                  exact hK.out _ _ ⟨x0, x1, x2, _, x4, x5, x6, x7, x8, x9, x10, x11, x12, x13, x14, x15, x16, x17, rfl, inv_step (i := 3) (x' := .int .i64 m) hF.out rfl (show 3 < 18 by decide), hW.out⟩
                | 4, _ =>
                  obtain rfl := Option.some.inj ho
                  have l3 : L 3 = true := dep_of hd (n := 3) (by decide)
                  obtain rfl := (hF.out 3 l3 : x3 = _)
                  clear hd ho hi hLi l3
                  go_simp
                  exact hK.out _ _ ⟨x0, x1, x2, _, _, x5, x6, x7, x8, x9, x10, x11, x12, x13, x14, x15, x16, x17, rfl, inv_step (i := 4) (x' := .int .i64 p) hF.out rfl (show 4 < 18 by decide), hW.out⟩
                | 5, _ =>
                  obtain rfl := Option.some.inj ho
                  clear hd ho hi hLi
                  go_simp
                  exact hK.out _ _ ⟨x0, x1, x2, x3, x4, _, x6, x7, x8, x9, x10, x11, x12, x13, x14, x15, x16, x17, rfl, inv_step (i := 5) (x' := .slice (some ⟨q, 0, none⟩) n c) hF.out rfl (show 5 < 18 by decide), hW.out⟩
                | 6, _ =>
                  obtain rfl := Option.some.inj ho
                  clear hd ho hi hLi
                  go_simp
                  exact hK.out _ _ ⟨x0, x1, x2, x3, x4, x5, _, x7, x8, x9, x10, x11, x12, x13, x14, x15, x16, x17, rfl, inv_step (i := 6) (x' := .int .i64 m) hF.out rfl (show 6 < 18 by decide), hW.out⟩
                | 7, _ =>
                  obtain rfl := Option.some.inj ho
                  have l6 : L 6 = true := dep_of hd (n := 6) (by decide)
                  obtain rfl := (hF.out 6 l6 : x6 = _)
                  clear hd ho hi hLi l6
                  go_simp
                  exact hK.out _ _ ⟨x0, x1, x2, x3, x4, x5, _, _, x8, x9, x10, x11, x12, x13, x14, x15, x16, x17, rfl, inv_step (i := 7) (x' := .int .i64 p) hF.out rfl (show 7 < 18 by decide), hW.out⟩
                | 8, _ =>
                  obtain rfl := Option.some.inj ho
                  have l5 : L 5 = true := dep_of hd (n := 5) (by decide)
                  obtain rfl := (hF.out 5 l5 : x5 = _)
                  have l7 : L 7 = true := dep_of hd (n := 7) (by decide)
                  obtain rfl := (hF.out 7 l7 : x7 = _)
                  clear hd ho hi hLi l5 l7
                  go_simp
                  exact hK.out _ _ ⟨x0, x1, x2, x3, x4, _, x6, _, _, x9, x10, x11, x12, x13, x14, x15, x16, x17, rfl, inv_step (i := 8) (x' := .pointer (some ⟨q, p, none⟩)) hF.out rfl (show 8 < 18 by decide), hW.out⟩
                | 9, _ =>
                  obtain rfl := Option.some.inj ho
                  have l8 : L 8 = true := dep_of hd (n := 8) (by decide)
                  obtain rfl := (hF.out 8 l8 : x8 = _)
                  have hs : L 15 = false := by
                    cases h : L 15 with
                    | false => rfl
                    | true => exact absurd (hW.out.2.2.1 h).1 (by rw [hLi]; decide)
                  have hs2 : L 17 = false := by
                    cases h : L 17 with
                    | false => rfl
                    | true => exact absurd (hW.out.2.2.2 h) (by rw [hs]; decide)
                  have hrow := hW.out.1
                  rw [hs, hs2] at hrow
                  have hcl : W.cell? ⟨q, p, none⟩ = some (.int .i64 y) := (cell_of_row W q p _ _ _ hrow).trans hcp.out
                  clear hrow hs hs2
                  clear hd ho hi hLi l8
                  go_simp
                  exact hK.out _ _ ⟨x0, x1, x2, x3, x4, x5, x6, x7, _, _, x10, x11, x12, x13, x14, x15, x16, x17, rfl, inv_step (i := 9) (x' := .int .i64 y) hF.out rfl (show 9 < 18 by decide), ⟨hW.out.1, hW.out.2.1, fun h => ⟨rfl, (hW.out.2.2.1 h).2⟩, hW.out.2.2.2⟩⟩
                | 10, _ =>
                  obtain rfl := Option.some.inj ho
                  clear hd ho hi hLi
                  go_simp
                  exact hK.out _ _ ⟨x0, x1, x2, x3, x4, x5, x6, x7, x8, x9, _, x11, x12, x13, x14, x15, x16, x17, rfl, inv_step (i := 10) (x' := .slice (some ⟨q, 0, none⟩) n c) hF.out rfl (show 10 < 18 by decide), hW.out⟩
                | 11, _ =>
                  obtain rfl := Option.some.inj ho
                  clear hd ho hi hLi
                  go_simp
                  exact hK.out _ _ ⟨x0, x1, x2, x3, x4, x5, x6, x7, x8, x9, x10, _, x12, x13, x14, x15, x16, x17, rfl, inv_step (i := 11) (x' := .int .i64 m) hF.out rfl (show 11 < 18 by decide), hW.out⟩
                | 12, _ =>
                  obtain rfl := Option.some.inj ho
                  have l10 : L 10 = true := dep_of hd (n := 10) (by decide)
                  obtain rfl := (hF.out 10 l10 : x10 = _)
                  have l11 : L 11 = true := dep_of hd (n := 11) (by decide)
                  obtain rfl := (hF.out 11 l11 : x11 = _)
                  clear hd ho hi hLi l10 l11
                  go_simp
                  exact hK.out _ _ ⟨x0, x1, x2, x3, x4, x5, x6, x7, x8, x9, _, _, _, x13, x14, x15, x16, x17, rfl, inv_step (i := 12) (x' := .pointer (some ⟨q, m, none⟩)) hF.out rfl (show 12 < 18 by decide), hW.out⟩
                | 13, _ =>
                  obtain rfl := Option.some.inj ho
                  have l12 : L 12 = true := dep_of hd (n := 12) (by decide)
                  obtain rfl := (hF.out 12 l12 : x12 = _)
                  have hs : L 15 = false := by
                    cases h : L 15 with
                    | false => rfl
                    | true => exact absurd (hW.out.2.2.1 h).2 (by rw [hLi]; decide)
                  have hs2 : L 17 = false := by
                    cases h : L 17 with
                    | false => rfl
                    | true => exact absurd (hW.out.2.2.2 h) (by rw [hs]; decide)
                  have hrow := hW.out.1
                  rw [hs, hs2] at hrow
                  have hcl : W.cell? ⟨q, m, none⟩ = some (.int .i64 x) := (cell_of_row W q m _ _ _ hrow).trans hcm.out
                  clear hrow hs hs2
                  clear hd ho hi hLi l12
                  go_simp
                  exact hK.out _ _ ⟨x0, x1, x2, x3, x4, x5, x6, x7, x8, x9, x10, x11, _, _, x14, x15, x16, x17, rfl, inv_step (i := 13) (x' := .int .i64 x) hF.out rfl (show 13 < 18 by decide), ⟨hW.out.1, hW.out.2.1, fun h => ⟨(hW.out.2.2.1 h).1, rfl⟩, hW.out.2.2.2⟩⟩
                | 14, _ =>
                  obtain rfl := Option.some.inj ho
                  have l0 : L 0 = true := dep_of hd (n := 0) (by decide)
                  obtain rfl := (hF.out 0 l0 : x0 = _)
                  have l1 : L 1 = true := dep_of hd (n := 1) (by decide)
                  obtain rfl := (hF.out 1 l1 : x1 = _)
                  clear hd ho hi hLi l0 l1
                  go_simp
                  exact hK.out _ _ ⟨_, _, x2, x3, x4, x5, x6, x7, x8, x9, x10, x11, x12, x13, _, x15, x16, x17, rfl, inv_step (i := 14) (x' := .pointer (some ⟨q, m, none⟩)) hF.out rfl (show 14 < 18 by decide), hW.out⟩
                | 15, _ =>
                  obtain rfl := Option.some.inj ho
                  have l14 : L 14 = true := dep_of hd (n := 14) (by decide)
                  obtain rfl := (hF.out 14 l14 : x14 = _)
                  have l9 : L 9 = true := dep_of hd (n := 9) (by decide)
                  obtain rfl := (hF.out 9 l9 : x9 = _)
                  have l13 : L 13 = true := dep_of hd (n := 13) (by decide)
                  obtain rfl := (hF.out 13 l13 : x13 = _)
                  have hs2 : L 17 = false := by
                    cases h : L 17 with
                    | false => rfl
                    | true => exact absurd (hW.out.2.2.2 h) (by rw [hLi]; decide)
                  have hrow := hW.out.1
                  rw [hLi, hs2] at hrow
                  have hcl : W.cell? ⟨q, m, none⟩ = some (.int .i64 x) := (cell_of_row W q m _ _ _ hrow).trans hcm.out
                  have hfz := frozen_of_row W q m _ _ hrow
                  have hnew := Lib.hid (heap_setCell_same W q m _ _ (.int .i64 y) hrow)
                  have hbn := Lib.hid (hW.out.2.1.setCell (p := ⟨q, m, none⟩) hq (.int .i64 y))
                  have hs3 := Lib.hid hs2
                  clear hrow hs2
                  clear hd ho hi hLi
                  go_simp
                  have hfin : (W.setCell ⟨q, m, none⟩ (.int .i64 y)).heap[q]? = some (.cells (bif L 17 then (cur.setIfInBounds m (.int .i64 y)).setIfInBounds p (.int .i64 x) else cur.setIfInBounds m (.int .i64 y)) 33 (0, 0)) := by rw [hs3.out]; exact hnew.out
                  exact hK.out _ _ ⟨x0, x1, x2, x3, x4, x5, x6, x7, x8, _, x10, x11, x12, _, _, x15, x16, x17, rfl, inv_pass hF.out (fun _ => trivial), ⟨hfin, hbn.out, fun _ => ⟨l9, l13⟩, fun h => rfl⟩⟩
                | 16, _ =>
                  obtain rfl := Option.some.inj ho
                  have l2 : L 2 = true := dep_of hd (n := 2) (by decide)
                  obtain rfl := (hF.out 2 l2 : x2 = _)
                  have l4 : L 4 = true := dep_of hd (n := 4) (by decide)
                  obtain rfl := (hF.out 4 l4 : x4 = _)
                  have l15 : L 15 = true := dep_of hd (n := 15) (by decide)
                  clear hd ho hi hLi l2 l4 l15
                  go_simp
                  exact hK.out _ _ ⟨x0, x1, _, x3, _, x5, x6, x7, x8, x9, x10, x11, x12, x13, x14, x15, _, x17, rfl, inv_step (i := 16) (x' := .pointer (some ⟨q, p, none⟩)) hF.out rfl (show 16 < 18 by decide), hW.out⟩
                | 17, _ =>
                  obtain rfl := Option.some.inj ho
                  have l16 : L 16 = true := dep_of hd (n := 16) (by decide)
                  obtain rfl := (hF.out 16 l16 : x16 = _)
                  have l13 : L 13 = true := dep_of hd (n := 13) (by decide)
                  obtain rfl := (hF.out 13 l13 : x13 = _)
                  have l15 : L 15 = true := dep_of hd (n := 15) (by decide)
                  have hrow := hW.out.1
                  rw [hLi, l15] at hrow
                  have hcl : W.cell? ⟨q, p, none⟩ = some (.int .i64 y) := (cell_of_row W q p _ _ _ hrow).trans ((Array.getElem?_setIfInBounds_ne (by omega)).trans hcp.out)
                  have hfz := frozen_of_row W q p _ _ hrow
                  have hnew := Lib.hid (heap_setCell_same W q p _ _ (.int .i64 x) hrow)
                  have hbn := Lib.hid (hW.out.2.1.setCell (p := ⟨q, p, none⟩) hq (.int .i64 x))
                  clear hrow
                  clear hd ho hi hLi
                  go_simp
                  exact hK.out _ _ ⟨x0, x1, x2, x3, x4, x5, x6, x7, x8, x9, x10, x11, x12, _, x14, x15, _, x17, rfl, inv_pass hF.out (fun _ => trivial), ⟨hnew.out, hbn.out, hW.out.2.2.1, fun _ => l15⟩⟩
              case hdone =>
                rintro L ac W2 ⟨x0, x1, x2, x3, x4, x5, x6, x7, x8, x9, x10, x11, x12, x13, x14, x15, x16, x17, rfl, hF, hW⟩ hall
                obtain rfl := (hF 0 (hall 0 (show 0 < 18 by decide)) : x0 = _)
                obtain rfl := (hF 1 (hall 1 (show 1 < 18 by decide)) : x1 = _)
                obtain rfl := (hF 2 (hall 2 (show 2 < 18 by decide)) : x2 = _)
                obtain rfl := (hF 3 (hall 3 (show 3 < 18 by decide)) : x3 = _)
                obtain rfl := (hF 4 (hall 4 (show 4 < 18 by decide)) : x4 = _)
                obtain rfl := (hF 5 (hall 5 (show 5 < 18 by decide)) : x5 = _)
                obtain rfl := (hF 6 (hall 6 (show 6 < 18 by decide)) : x6 = _)
                obtain rfl := (hF 7 (hall 7 (show 7 < 18 by decide)) : x7 = _)
                obtain rfl := (hF 8 (hall 8 (show 8 < 18 by decide)) : x8 = _)
                obtain rfl := (hF 9 (hall 9 (show 9 < 18 by decide)) : x9 = _)
                obtain rfl := (hF 10 (hall 10 (show 10 < 18 by decide)) : x10 = _)
                obtain rfl := (hF 11 (hall 11 (show 11 < 18 by decide)) : x11 = _)
                obtain rfl := (hF 12 (hall 12 (show 12 < 18 by decide)) : x12 = _)
                obtain rfl := (hF 13 (hall 13 (show 13 < 18 by decide)) : x13 = _)
                obtain rfl := (hF 14 (hall 14 (show 14 < 18 by decide)) : x14 = _)
                obtain rfl := (hF 16 (hall 16 (show 16 < 18 by decide)) : x16 = _)
                dsimp only
                have e17 := hall 17 (show 17 < 18 by decide)
                have hR6 := Lib.hid hW.2.1
                have hD6 : Hid (Dat W2 q (dwn x l p ++ zs.drop (k + 1))) := by
                  have h1 := hW.1
                  rw [e17] at h1
                  exact ⟨_, h1, hsw.out⟩
                clear hF hall hW e17 hrow hsw hcm hcp hRh
                go_wp2_with fail
                go_roundw
                case rel => exact ⟨p, by omega, by go_num, hR6, hD6, hd2⟩
                case measure => simp [intOf]; omega
    · have he := hdone.out k (by omega)
      rw [he] at hD
      have h2 := Lib.hid (show Below w0.heap.size w0 wr ∧ Dat wr q (insAllI T [] zs) from ⟨hB.out, hD.out⟩)
      clear he hB hD
      go_wp2_with fail
      go_end0
      exact ⟨rfl, h2.out⟩
end Go.Proofs.YtphnakdgpilcmaaGreatDoor
