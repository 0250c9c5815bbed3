/- Texts joined: what each shows stands ahead of its theorems. -/
import Derived.Test.YtbeanjaenmpoeaaGreatDoorZb0
import Derived.Test.YtbeanjaenmpoeaaGreatDoorZb2
import Derived.Test.YtbeanjaenmpoeaaGreatDoorZb13
import Derived.Test.YtbeanjaenmpoeaaGreatDoorZb16
import Derived.Maps.AppendAt
namespace Go.Proofs.YtbeanjaenmpoeaaGreatDoor
section
open Go

/-- A frame, with some slots written. -/
def upd (us : List (Nat × Value)) (A : Array Value) : Array Value := us.foldl (fun A p => A.setIfInBounds p.1 p.2) A
theorem gd_eq {A : Array Value} {s : Nat} {v : Value} (h : s < A.size) : (A.setIfInBounds s v).getD s undef = v := by simp [Array.getD_eq_getD_getElem?, h]
theorem gd_ne {A : Array Value} {s r : Nat} {v : Value} (h : s ≠ r) : (A.setIfInBounds s v).getD r undef = A.getD r undef := by simp [Array.getD_eq_getD_getElem?, Array.getElem?_setIfInBounds, h]
theorem gd_out {A : Array Value} {s : Nat} (h : A.size ≤ s) : A.getD s undef = undef := by simp [Array.getD_eq_getD_getElem?, Array.getElem?_eq_none h]
theorem arr_ext {T U : Array Value} (hs : T.size = U.size) (h : ∀ s, T.getD s undef = U.getD s undef) : T = U := by
  refine Array.ext hs fun i h1 h2 => ?_
  have := h i
  simpa [Array.getD_eq_getD_getElem?, Array.getElem?_eq_getElem h1, Array.getElem?_eq_getElem h2] using this
theorem upd_eq {T : Array Value} : ∀ {us : List (Nat × Value)} {A : Array Value}, T.size = A.size → (∀ p ∈ us, T.getD p.1 undef = p.2) → (∀ s, s ∉ us.map Prod.fst → T.getD s undef = A.getD s undef) → T = upd us A
  | [], A, hs, _, h => arr_ext hs fun s => h s (by simp)
  | (s, v) :: r, A, hs, hv, h => by
    have h0 : T.getD s undef = v := hv (s, v) (by simp)
    refine upd_eq (us := r) (A := A.setIfInBounds s v) (by simpa using hs) (fun p hp => hv p (by simp [hp])) fun s' hs' => ?_
    by_cases e : s = s'
    · subst e
      rcases Nat.lt_or_ge s A.size with h1 | h1
      · rw [gd_eq h1, h0]
      · rw [gd_out (by omega), gd_out (by simpa using h1)]
    · rw [gd_ne e]
      exact h s' (by simp only [List.map_cons, List.mem_cons, not_or]; exact ⟨Ne.symm e, hs'⟩)
/-- No other operation writes this slot. -/
def uniq (ds : List (Option Nat)) (k s : Nat) : Bool := (List.range ds.length).all fun j => j == k || ds[j]? != some (some s)
theorem uniq_of {ds : List (Option Nat)} {k s j : Nat} (h : uniq ds k s = true) (hj : ds[j]? = some (some s)) : j = k := by
  unfold uniq at h
  have hl : j < ds.length := by
    rcases Nat.lt_or_ge j ds.length with h1 | h1
    · exact h1
    · rw [List.getElem?_eq_none h1] at hj; cases hj
  have := List.all_eq_true.1 h j (List.mem_range.2 hl)
  rw [hj] at this
  simpa using this
section
variable (T0 : Array Value) (ds : List (Option Nat)) (vs : List (Option Value)) (Wi : (Nat → Bool) → Array Value → World → Prop)
/-- What is known of the frame. -/
structure FW (L : Nat → Bool) (T : Array Value) : Prop where
  size : T.size = T0.size
  old : ∀ s, some s ∉ ds → T.getD s undef = T0.getD s undef
  val : ∀ k s u, L k = true → ds[k]? = some (some s) → vs[k]? = some (some u) → T.getD s undef = u
def IW (L : Nat → Bool) (ac : Act) (W : World) : Prop := ∃ T, ac = ⟨T, []⟩ ∧ FW T0 ds vs L T ∧ Wi L T W
end
section
variable {T0 : Array Value} {ds : List (Option Nat)} {vs : List (Option Value)} {Wi : (Nat → Bool) → Array Value → World → Prop} {L : Nat → Bool} {T : Array Value} {W' : World}
theorem FW.put (h : FW T0 ds vs L T) {k s : Nat} {v : Value} (hk : ds[k]? = some (some s)) (hu : uniq ds k s = true) {N : Nat} (hN : T0.size = N) (hs : s < N) (hv : ∀ u, vs[k]? = some (some u) → v = u) (hW : Wi (fun q => q == k || L q) (T.setIfInBounds s v) W') :
    IW T0 ds vs Wi (fun q => q == k || L q) ⟨T.setIfInBounds s v, []⟩ W' := by
  refine ⟨_, rfl, ⟨by simpa using h.size, fun r hr => ?_, fun j r u hl hj hv' => ?_⟩, hW⟩
  · have : s ≠ r := fun e => hr (by rw [← e]; exact List.mem_of_getElem? hk)
    rw [gd_ne this]
    exact h.old r hr
  · by_cases e : j = k
    · subst e
      rw [hk] at hj
      obtain rfl := Option.some.inj (Option.some.inj hj)
      rw [gd_eq (by rw [h.size, hN]; exact hs)]
      exact hv u hv'
    · have hne : s ≠ r := fun e' => e (uniq_of hu (by rw [e']; exact hj))
      rw [gd_ne hne]
      exact h.val j r u (by simpa [e] using hl) hj hv'
theorem FW.pass (h : FW T0 ds vs L T) {k : Nat} (hk : ds[k]? = some none) (hW : Wi (fun q => q == k || L q) T W') : IW T0 ds vs Wi (fun q => q == k || L q) ⟨T, []⟩ W' := by
  refine ⟨_, rfl, ⟨h.size, h.old, fun j r u hl hj hv' => h.val j r u ?_ hj hv'⟩, hW⟩
  by_cases e : j = k
  · subst e; rw [hk] at hj; cases hj
  · simpa [e] using hl
theorem FW.fin (h : FW T0 ds vs L T) (us : List (Nat × Value)) (keys : List Nat) (hkeys : us.map Prod.fst = keys) (hv : ∀ p ∈ us, T.getD p.1 undef = p.2) (hc : (ds.all fun x => match x with | none => true | some s => keys.contains s) = true) : T = upd us T0 := by
  refine upd_eq h.size hv fun s hs => h.old s fun hd => hs ?_
  have := List.all_eq_true.1 hc (some s) hd
  rw [hkeys]
  simpa using this
end
section
variable {P : Program} {ops : Array Oper} {Q : Exit → Act → World → Prop} {T0 : Array Value} {w : World}
/-- Which operations must have come up ahead of each. -/
def tbOk (ops : List Oper) (tb : List (List Nat)) : Bool := (List.range tb.length).all fun k => (tb.getD k []).all fun n => match ops[k]? with | some o => hasDep .any o n | none => false
theorem tb_of {ops : List Oper} {tb : List (List Nat)} (h : tbOk ops tb = true) {k n : Nat} (hn : n ∈ tb.getD k []) : ∃ o, ops[k]? = some o ∧ hasDep .any o n = true := by
  have hk : k < tb.length := by
    rcases Nat.lt_or_ge k tb.length with h1 | h1
    · exact h1
    · simp [List.getD_eq_getElem?_getD, List.getElem?_eq_none h1] at hn
  have := List.all_eq_true.1 (List.all_eq_true.1 h k (List.mem_range.2 hk)) n hn
  cases ho : ops[k]? with
  | none => rw [ho] at this; cases this
  | some o => rw [ho] at this; exact ⟨o, rfl, this⟩
theorem region_iw {id : Nat} (tb : List (List Nat)) (ds : List (Option Nat)) (vs : List (Option Value)) (Wi : (Nat → Bool) → Array Value → World → Prop) (hlen : vs.length = ops.size) (htb : tbOk ops.toList tb = true) (hm : P.follows .mixedOrders = true)
    (hlt : ∀ (i : Nat) (o : Oper), ops[i]? = some o → ∀ e ∈ o.after, Region.binds .any e = true → e.on < i)
    (hstep : ∀ T1, T1 = T0 → ∀ (L : Nat → Bool) (T : Array Value) (W : World) (i : Nat) (o : Oper), FW T1 ds vs L T → Wi L T W → (∀ k n, L k = true → n ∈ tb.getD k [] → L n = true) → ops.toList[i]? = some o → L i = false → (∀ e ∈ o.after, Region.binds .any e = true → L e.on = true) →
      ∀ K : Act → World → Prop, (∀ a' w', IW T1 ds vs Wi (fun j => j == i || L j) a' w' → K a' w') → if Region.wanted o (yielded ops T) = true then Oper.wp P o ⟨T, []⟩ W K Q else K ((⟨T, []⟩ : Act).put o.dst undef) W)
    (hdone : ∀ L T W, FW T0 ds vs L T → Wi L T W → (∀ i, i < ops.size → L i = true) → Q .normal ⟨T, []⟩ W)
    (hstart : Wi (fun j => (Array.replicate ops.size false).getD j true) T0 w.drew) : (Code.region id ops true).wp P Q ⟨T0, []⟩ w := by
  refine region_inv (md := .any) (fun L a W => IW T0 ds vs Wi L a W ∧ ∀ k n, k < ops.size → L k = true → n ∈ tb.getD k [] → L n = true) hlt ?_ ?_ rfl hm ⟨⟨T0, rfl, ⟨rfl, fun _ _ => rfl, fun k s u hl _ hv => ?_⟩, hstart⟩, fun k n hk hl _ => ?_⟩
  · rintro L a W i o ⟨⟨T, rfl, hF, hW⟩, hc⟩ ho hLi hd K hK
    have hio : i < ops.size := (Array.getElem?_eq_some_iff.1 ho).1
    have hcl : ∀ k n, L k = true → n ∈ tb.getD k [] → L n = true := fun k n hl hn => by
      obtain ⟨o', ho', _⟩ := tb_of htb hn
      have := (List.getElem?_eq_some_iff.1 ho').1
      exact hc k n (by simpa using this) hl hn
    refine hstep T0 rfl L T W i o hF hW hcl (by rw [Array.getElem?_toList]; exact ho) hLi hd K fun a' w' h => hK a' w' ⟨h, fun k n _ hl hn => ?_⟩
    by_cases e : k = i
    · subst e
      obtain ⟨o', ho', hd'⟩ := tb_of htb hn
      rw [Array.getElem?_toList, ho] at ho'
      obtain rfl := Option.some.inj ho'
      have := dep_of hd hd'
      simp [this]
    · have := hcl k n (by simpa [e] using hl) hn
      simp [this]
  · rintro L a W ⟨⟨T, rfl, hF, hW⟩, _⟩ hall
    exact hdone L T W hF hW hall
  · have hk : k < ops.size := by
      rw [← hlen]
      rcases Nat.lt_or_ge k vs.length with h1 | h1
      · exact h1
      · rw [List.getElem?_eq_none h1] at hv; cases hv
    rw [inv_none hk] at hl
    cases hl
  · have hl : (Array.replicate ops.size false).getD k true = true := hl
    rw [inv_none hk] at hl
    cases hl
/-! ### One operation -/
variable {o : Oper} {a : Act} {w' : World} {K : Act → World → Prop} {T : Array Value}
theorem st_val {v : Value} (hw : Region.wanted o (yielded ops T) = true) (hrun : (execOp (⟨T, []⟩ : Act).eval o).run P w = .ok (.value v) w') (h : K ((⟨T, []⟩ : Act).put o.dst v) w') :
    if Region.wanted o (yielded ops T) = true then Oper.wp P o ⟨T, []⟩ w K Q else K ((⟨T, []⟩ : Act).put o.dst undef) w := by
  rw [if_pos hw]
  unfold Oper.wp
  rw [hrun]
  exact h
theorem st_do (hw : Region.wanted o (yielded ops T) = true) (hrun : (execOp (⟨T, []⟩ : Act).eval o).run P w = .ok .skip w') (h : K ((⟨T, []⟩ : Act).put o.dst undef) w') :
    if Region.wanted o (yielded ops T) = true then Oper.wp P o ⟨T, []⟩ w K Q else K ((⟨T, []⟩ : Act).put o.dst undef) w := by
  rw [if_pos hw]
  unfold Oper.wp
  rw [hrun]
  exact h
theorem st_no (hw : Region.wanted o (yielded ops T) = false) (h : K ((⟨T, []⟩ : Act).put o.dst undef) w) :
    if Region.wanted o (yielded ops T) = true then Oper.wp P o ⟨T, []⟩ w K Q else K ((⟨T, []⟩ : Act).put o.dst undef) w := by
  rw [if_neg (by rw [hw]; decide)]
  exact h
theorem st_call {f : FuncId} {args : Array Value} {R : Ending → World → Prop} (hw : Region.wanted o (yielded ops T) = true) (hrun : (execOp (⟨T, []⟩ : Act).eval o).run P w = .ok (.enter f args) w') (hc : Calls P f args w' R)
    (h : ∀ r w2, R r w2 → ∃ v, r = .returned v ∧ K ((⟨T, []⟩ : Act).put o.dst v) w2) :
    if Region.wanted o (yielded ops T) = true then Oper.wp P o ⟨T, []⟩ w K Q else K ((⟨T, []⟩ : Act).put o.dst undef) w := by
  rw [if_pos hw]
  unfold Oper.wp
  rw [hrun]
  refine hc.mono fun r w2 hr => ?_
  obtain ⟨v, rfl, hk⟩ := h r w2 hr
  exact hk
theorem want_none (h : o.guard = none) : Region.wanted o (yielded ops T) = true := by unfold Region.wanted; rw [h]
theorem want_some {j s : Nat} {b b' : Bool} (h : o.guard = some (j, b)) (hd : (ops[j]?).bind (·.dst) = some s) (e : T.getD s undef = .bool b') : Region.wanted o (yielded ops T) = (b' == b) := by
  have hs : s < T.size := by
    rcases Nat.lt_or_ge s T.size with h1 | h1
    · exact h1
    · rw [gd_out h1] at e; cases e
  have e2 : T[s]? = some (.bool b') := by
    rw [Array.getElem?_eq_getElem hs]
    simpa [Array.getD_eq_getD_getElem?, Array.getElem?_eq_getElem hs] using e
  unfold Region.wanted
  rw [h]
  unfold yielded
  dsimp only
  rw [hd]
  simp only [Option.bind_some, e2]
  cases b' <;> cases b <;> rfl
end
end

section
open Go.RowKit Go.Maps

/-- A slice of numbers of terms, in a block of such. -/
structure IdsT (w : World) (A : Option Addr) (n : Nat) (l : List Int) : Prop where
  ints : Ints w A n l
  typ : 0 < n → ∃ b off cur fr, A = some ⟨b, off, none⟩ ∧ w.heap[b]? = some (.cells cur 33 fr)
theorem IdsT.stay {w w' : World} {A : Option Addr} {n : Nat} {l : List Int} (h : IdsT w A n l) (hs : Stay w w') : IdsT w' A n l := by
  refine ⟨⟨h.ints.1, h.ints.2.1, fun hn => ?_⟩, fun hn => ?_⟩
  · obtain ⟨b1, off, cur, fr, e, hc⟩ := h.typ hn
    obtain ⟨b2, off2, e2, hlt, hr2⟩ := h.ints.2.2 hn
    rw [e] at e2
    injection e2 with e2
    injection e2 with q1 q2 _
    subst q1
    subst q2
    have hk := hs _ _ _ _ hc (by decide) (by decide) (by decide)
    refine ⟨b1, off, e, (Array.getElem?_eq_some_iff.1 hk).1, fun j z hz i u hu => ?_⟩
    rw [World.cell?_of_block (hk.trans hc.symm)]
    exact hr2 j z hz i u hu
  · obtain ⟨b1, off, cur, fr, e, hc⟩ := h.typ hn
    exact ⟨b1, off, cur, fr, e, hs _ _ _ _ hc (by decide) (by decide) (by decide)⟩
theorem IdsT.nil_ {w : World} {A : Option Addr} : IdsT w A 0 [] := ⟨Rws.nil_, fun h => absurd h (by omega)⟩
theorem IdsT.of_own {w : World} {B : Nat} {v : Value} {l : List Int} (h : OwnD w B v l) : ∃ A c, v = .slice A l.length c ∧ IdsT w A l.length l := by
  obtain ⟨A, c, hv, hi⟩ := h.ints
  refine ⟨A, c, hv, hi, fun hn => ?_⟩
  obtain ⟨b, off, e, _⟩ := hi.2.2 hn
  obtain ⟨cur, fr, hc⟩ := OwnR.typ h (q := b) (by rw [hv, e]; rfl)
  exact ⟨b, off, cur, fr, e, hc⟩
/-- What a kitchen holds: what is known, what was sent, what was made. -/
structure KF (g q : Nat) (W : World) (kA sA mA : Option Addr) (kn kc sn sc mn mc : Nat) (lk ls lm : List Int) : Prop where
  blk : W.heap[q]? = some (.cells #[.pointer (some ⟨g, 0, none⟩), .slice kA kn kc, .slice sA sn sc, .slice mA mn mc] 100 (0, 0))
  k : IdsT W kA kn lk
  s : IdsT W sA sn ls
  m : IdsT W mA mn lm
theorem KF.stay {g q : Nat} {W W' : World} {kA sA mA : Option Addr} {kn kc sn sc mn mc : Nat} {lk ls lm : List Int} (h : KF g q W kA sA mA kn kc sn sc mn mc lk ls lm) (hs : Stay W W') : KF g q W' kA sA mA kn kc sn sc mn mc lk ls lm :=
  ⟨hs _ _ _ _ h.blk (by decide) (by decide) (by decide), h.k.stay hs, h.s.stay hs, h.m.stay hs⟩
theorem KF.cells {g q : Nat} {W : World} {kA sA mA : Option Addr} {kn kc sn sc mn mc : Nat} {lk ls lm : List Int} (h : KF g q W kA sA mA kn kc sn sc mn mc lk ls lm) :
    W.cell? ⟨q, 0, none⟩ = some (.pointer (some ⟨g, 0, none⟩)) ∧ W.cell? ⟨q, 1, none⟩ = some (.slice kA kn kc) ∧ W.cell? ⟨q, 2, none⟩ = some (.slice sA sn sc) ∧ W.cell? ⟨q, 3, none⟩ = some (.slice mA mn mc) :=
  ⟨cell_of_row W q 0 _ _ _ h.blk, cell_of_row W q 1 _ _ _ h.blk, cell_of_row W q 2 _ _ _ h.blk, cell_of_row W q 3 _ _ _ h.blk⟩
theorem SR.same {w W W1 : World} {g : Nat} {L : List Tm} {o : Option Tm} {x : Int} (h : St w g W1 L) (hx : Nm L x o) (hb : Below W.heap.size W W1) : SR w g W L o (.returned (.int .i64 x)) W1 :=
  ⟨L, x, rfl, h, .inl ⟨rfl, fun t e => by have := hx.1; rw [e] at this; exact get_mem this⟩, hx, Stay.of_below hb, hb.size, Fresh.of_below hb⟩
theorem rat_any {A : Option Addr} {n c : Nat} {l : List Int} (i : Int) (w : World) (hn : n ≤ 1000) (h : Ints w A n l) :
    Calls Tryz.prog 84 #[.slice A n c, .int .i64 i] w fun r w' => r = .returned (.int .i64 (pkI l i)) ∧ w = w' := by
  have hll := h.len
  by_cases h0 : i < 0
  · have e1 : pkI l i = -1 := if_pos h0
    rw [e1]
    clear hll h
    go_enter Tryz.func84, Tryz.ntmps84
    go_wp2_with fail
    go_ret
    exact ⟨rfl, rfl⟩
  · obtain ⟨k, rfl⟩ := Int.eq_ofNat_of_zero_le (Int.not_lt.1 h0)
    by_cases hk : k < n
    · obtain ⟨b, off, x, rfl, hb, hx, hc⟩ := h.at_ hk
      have e1 : pkI l k = x := by unfold pkI; rw [if_neg h0, Int.toNat_natCast, hx]; rfl
      rw [e1]
      have hki : ¬ ((n : Int) ≤ (k : Int)) := by omega
      clear hll hx h e1
      go_enter Tryz.func84, Tryz.ntmps84
      go_wp2_with fail
      go_ret
      exact ⟨rfl, rfl⟩
    · have e1 : pkI l k = -1 := by unfold pkI; rw [if_neg h0, Int.toNat_natCast, List.getElem?_eq_none (by omega)]; rfl
      rw [e1]
      have hki : ((n : Int) ≤ (k : Int)) := by omega
      clear hll h e1
      go_enter Tryz.func84, Tryz.ntmps84
      go_wp2_with fail
      go_ret
      exact ⟨rfl, rfl⟩
/-- A node, laid in a new block. -/
theorem nd_box2 (w5 : World) (k a b : Nat) (s : List UInt8) (A : Option Addr) (m c : Nat) : (w5.alloc (.cells #[.int .i64 0, .int .i64 0, .int .i64 0, .string ⟨#[]⟩, .slice none 0 0] 68)).heap[w5.heap.size]? = some (.cells #[.int .i64 0, .int .i64 0, .int .i64 0, .string ⟨#[]⟩, .slice none 0 0] 68 (0, 0)) ∧ Below w5.heap.size w5 ((w5.alloc (.cells #[.int .i64 0, .int .i64 0, .int .i64 0, .string ⟨#[]⟩, .slice none 0 0] 68)).setRow w5.heap.size (ndC k a b s (.slice A m c)).toArray) ∧ ((w5.alloc (.cells #[.int .i64 0, .int .i64 0, .int .i64 0, .string ⟨#[]⟩, .slice none 0 0] 68)).setRow w5.heap.size (ndC k a b s (.slice A m c)).toArray).heap[w5.heap.size]? = some (.cells (ndC k a b s (.slice A m c)).toArray 68 (0, 0)) :=
  ⟨heap_new w5 _, below_setRow_ (below_new w5 _) (Nat.le_refl _) _, hsetRow _ _ _ _ _ _ (heap_new w5 _)⟩
/-- An argument's number. -/
theorem arg_nm {L : List Tm} {xs : List Nat} {args : List Tm} (h : xs.map (fun i => L[i]?) = args.map some) {j : Nat} {y : Nat} {u : Tm} (hy : xs[j]? = some y) (hu : args[j]? = some u) : Nm L (y : Int) (some u) := by
  have := congrArg (fun q => q[j]?) h
  simp only [List.getElem?_map, hy, hu] at this
  exact ⟨by rw [get_nat]; simpa using this, fun e => by cases e⟩
def OpnR (L : List Tm) (W : World) (o : Option Tm) (r : Ending) (w' : World) : Prop := ∃ z : Int, r = .returned (.int .i64 z) ∧ Nm L z o ∧ Below W.heap.size W w'
set_option maxRecDepth 100000 in
set_option maxHeartbeats 4000000 in
theorem opens_any {w0 W : World} {g q : Nat} {L : List Tm} (hS : St w0 g W L) {k1 k2 k3 : Value} (hq : W.heap[q]? = some (.cells #[.pointer (some ⟨g, 0, none⟩), k1, k2, k3] 100 (0, 0))) (x y : Int) (p o : Option Tm) (hx : Nm L x p) (hy : Nm L y o) :
    Calls Tryz.prog 87 #[.pointer (some ⟨q, 0, none⟩), .int .i64 x, .int .i64 y] W (OpnR L W (openT p o)) := by
  have c0 := cell_of_row W q 0 _ _ _ hq
  clear hq
  cases p with
  | none =>
    have cV := Lib.hid (hS.view_none x hx.1)
    have e : openT none o = none := rfl
    rw [e]
    have hN := Lib.hid (Nm.none_ L)
    clear e hx hy hS
    unfold OpnR
    go_enter Tryz.func87, Tryz.ntmps87
    go_upto_region 2 with (first
      | (go_at_call 34; refine cV.out.mono ?_; rintro r w2 ⟨rfl, hb2⟩
         obtain ⟨z, b3, _⟩ := nd_box2 w2 0 0 0 [] none 0 0
         have hz := Lib.hid z
         have hb3H := Lib.hid (hb2.trans (b3.mono hb2.size))
         clear hb2 z b3)
      | (refine wpList_store_at 68 _ _ rfl rfl w2.heap.size zNd.toArray rfl rfl 68 zNd.toArray hz.out (by kernel_rfl) rfl zNd_one ?_))
    have hb3 : Below W.heap.size W ((w2.alloc (.cells #[.int .i64 0, .int .i64 0, .int .i64 0, .string ⟨#[]⟩, .slice none 0 0] 68)).setRow w2.heap.size zNd.toArray) := hb3H.out
    clear hb3H hz
    generalize ((w2.alloc (.cells #[.int .i64 0, .int .i64 0, .int .i64 0, .string ⟨#[]⟩, .slice none 0 0] 68)).setRow w2.heap.size zNd.toArray) = w3 at *
    have hb3h := Lib.hid hb3
    clear hb3
    go_wp2_with fail
    go_ret
    exact ⟨_, rfl, hN.out, hb3h.out⟩
  | some t =>
    obtain ⟨k, a, b, s, args⟩ := t
    have hok := ok_mk.1 (hS.good.ok _ (get_mem hx.1))
    have hk1 := okHd_kind hok.1
    have cV := hS.view_ids x _ hx.1
    simp only [Tm.kind, Tm.a, Tm.b, Tm.s, Tm.args] at cV
    replace cV := Lib.hid cV
    have honce := Lib.hid hS.good.once
    have hyh := Lib.hid hy
    by_cases hk : k = 9
    · subst hk
      have hl2 : args.length = 2 := by have := hok.1; unfold okHd at this; omega
      obtain ⟨u0, u1, rfl⟩ : ∃ u0 u1, args = [u0, u1] := by
        match args, hl2 with
        | [u0, u1], _ => exact ⟨u0, u1, rfl⟩
      obtain ⟨res, hres⟩ : ∃ res, openT (some (.mk 9 a b s [u0, u1])) o = res := ⟨_, rfl⟩
      rw [hres]
      replace hres := Lib.hid hres
      clear hok hl2 hx hy hS
      unfold OpnR
      go_enter Tryz.func87, Tryz.ntmps87
      go_upto_region 2 with (first
        | (go_at_call 34; refine cV.out.mono ?_; rintro r w2 ⟨Av, cv, xs, rfl, hI2, hxs, hb2⟩
           obtain ⟨z, b3, hrow⟩ := nd_box2 w2 9 a b s Av 2 cv
           have hI3H := Lib.hid (hI2.keep (F := fun _ => False) (Keeps.of_below b3) (fun _ _ _ _ h => h))
           have hz := Lib.hid z
           have hrowH := Lib.hid hrow
           have hb3H := Lib.hid (hb2.trans (b3.mono hb2.size))
           have hxsh := Lib.hid hxs
           clear hI2 hb2 hrow b3 hxs z)
        | (refine wpList_store_at 68 _ _ rfl rfl w2.heap.size (ndC 9 a b s (.slice Av 2 cv)).toArray rfl rfl 68 zNd.toArray hz.out (by kernel_rfl) rfl nd_all ?_))
      replace hrowH := hrowH.out
      replace hb3H := hb3H.out
      replace hI3H := hI3H.out
      generalize ((w2.alloc (.cells #[.int .i64 0, .int .i64 0, .int .i64 0, .string ⟨#[]⟩, .slice none 0 0] 68)).setRow w2.heap.size (ndC 9 a b s (.slice Av 2 cv)).toArray) = w3 at *
      generalize w2.heap.size = p6 at *
      have d0 : w3.cell? ⟨p6, 0, none⟩ = some (.int .i64 9) := cell_of_row w3 p6 0 _ _ _ hrowH
      have d4 : w3.cell? ⟨p6, 4, none⟩ = some (.slice Av 2 cv) := cell_of_row w3 p6 4 _ _ _ hrowH
      obtain ⟨A', c', ev, hr, _⟩ := hI3H
      injection ev with e1 e2 e3
      subst e1
      clear e3
      have hxl : xs.length = 2 := e2.symm
      obtain ⟨y0, y1, rfl⟩ : ∃ y0 y1, xs = [y0, y1] := by
        match xs, hxl with
        | [y0, y1], _ => exact ⟨y0, y1, rfl⟩
      have n0 := arg_nm hxsh.out (j := 0) rfl rfl
      have n1 := Lib.hid (arg_nm hxsh.out (j := 1) rfl rfl)
      obtain ⟨b1, off, z0, rfl, hbl, hz0, _, hc0⟩ := hr.row (j := 0) (by simp)
      obtain ⟨b2, off2, z1, e2, _, hz1, _, hc1⟩ := hr.row (j := 1) (by simp)
      injection e2 with e2
      injection e2 with q1 q2 _
      subst q1
      subst q2
      obtain rfl : idv y0 = z0 := Option.some.inj hz0
      obtain rfl : idv y1 = z1 := Option.some.inj hz1
      have hc0 : w3.cell? ⟨b1, off, none⟩ = some (.int .i64 y0) := by have := hc0 0 _ rfl; simpa using this
      have hc1 : w3.cell? ⟨b1, off + 1, none⟩ = some (.int .i64 y1) := by have := hc1 0 _ rfl; simpa using this
      have hb3h := Lib.hid hb3H
      have hinj := Nm.inj honce.out n0 hyh.out
      by_cases ho : some u0 = o
      · have f1 : ((y0 : Int) == y) = true := by rw [hinj.2 ho]; simp
        have e : openT (some (.mk 9 a b s [u0, u1])) o = some u1 := by unfold openT; dsimp only; rw [if_pos ⟨rfl, ho⟩]; rfl
        have e2 := Lib.hid (hres.out.symm.trans e)
        clear hrowH hb3H hr hz0 hz1 hinj n0 honce hyh hxsh hxl e ho hz
        go_wp2_with fail
        go_ret
        exact ⟨_, rfl, by rw [e2.out]; exact n1.out, hb3h.out⟩
      · have f1 : ((y0 : Int) == y) = false := by rw [beq_eq_false_iff_ne]; exact fun h => ho (hinj.1 h)
        have e : openT (some (.mk 9 a b s [u0, u1])) o = none := by unfold openT; dsimp only; rw [if_neg (fun h => ho h.2)]
        have e2 := Lib.hid (hres.out.symm.trans e)
        have hN := Lib.hid (Nm.none_ L)
        clear hrowH hb3H hr hz0 hz1 hinj n0 honce hyh hxsh hxl e ho hz
        go_wp2_with fail
        go_ret
        exact ⟨_, rfl, by rw [e2.out]; exact hN.out, hb3h.out⟩
    · have e : openT (some (.mk k a b s args)) o = none := by unfold openT; dsimp only; rw [if_neg (fun h => hk h.1)]
      rw [e]
      have hN := Lib.hid (Nm.none_ L)
      have hkb : ((k : Int) == 9) = false := by rw [beq_eq_false_iff_ne]; omega
      clear e hok hx hy hyh honce hS
      unfold OpnR
      go_enter Tryz.func87, Tryz.ntmps87
      go_upto_region 2 with (first
        | (go_at_call 34; refine cV.out.mono ?_; rintro r w2 ⟨Av, cv, xs, rfl, _, _, hb2⟩
           obtain ⟨z, b3, hrow⟩ := nd_box2 w2 k a b s Av args.length cv
           have hz := Lib.hid z
           have hrowH := Lib.hid hrow
           have hb3H := Lib.hid (hb2.trans (b3.mono hb2.size))
           clear hb2 hrow b3 z)
        | (refine wpList_store_at 68 _ _ rfl rfl w2.heap.size (ndC k a b s (.slice Av args.length cv)).toArray rfl rfl 68 zNd.toArray hz.out (by kernel_rfl) rfl nd_all ?_))
      replace hrowH := hrowH.out
      replace hb3H := hb3H.out
      generalize ((w2.alloc (.cells #[.int .i64 0, .int .i64 0, .int .i64 0, .string ⟨#[]⟩, .slice none 0 0] 68)).setRow w2.heap.size (ndC k a b s (.slice Av args.length cv)).toArray) = w3 at *
      generalize w2.heap.size = p6 at *
      have d0 : w3.cell? ⟨p6, 0, none⟩ = some (.int .i64 k) := cell_of_row w3 p6 0 _ _ _ hrowH
      have hb3h := Lib.hid hb3H
      clear hb3H hrowH hz
      go_wp2_with fail
      go_ret
      exact ⟨_, rfl, hN.out, hb3h.out⟩
end

section
open Go.RowKit Go.Maps

def kt1 : Tm := .mk 3 1 0 [] []
def dt1 : Tm := .mk 8 0 68 [] [kt1, kt1, kt1]
theorem kt1_eq : keyT 1 = some kt1 := by simp [keyT, numOk, mkO, alls, own, lens, kt1]
theorem kt1_len : kt1.len = 5 := by rw [kt1, len_mk (.inr (.inr (.inl ⟨rfl, by decide, rfl, rfl, rfl⟩)))]; simp [own, lens]
theorem dt1_eq : deriveT 68 (some kt1) (some kt1) (some kt1) = some dt1 := by
  have h := kt1_len
  simp [deriveT, mkO, alls, own, lens, dt1, h]
/-- An array of six numbers, laid in a new block. -/
theorem six_box (w5 : World) (l : List Int) (hl : l.length = 6) : (w5.alloc (.cells (six0 []).toArray 36)).heap[w5.heap.size]? = some (.cells (six0 []).toArray 36 (0, 0)) ∧ Below w5.heap.size w5 ((w5.alloc (.cells (six0 []).toArray 36)).setRow w5.heap.size (l.map (Value.int .i64)).toArray) ∧ ((w5.alloc (.cells (six0 []).toArray 36)).setRow w5.heap.size (l.map (Value.int .i64)).toArray).heap[w5.heap.size]? = some (.cells (l.map (Value.int .i64)).toArray 36 (0, 0)) ∧ (l.map (Value.int .i64)).toArray.all (·.oneCell') = true :=
  ⟨heap_new w5 _, below_setRow_ (below_new w5 _) (Nat.le_refl _) _, hsetRow _ _ _ _ _ _ (heap_new w5 _), by simp [Value.oneCell']⟩
theorem six_info (l : List Int) (hl : l.length = 6) : (Tryz.prog.info? 36).map (·.size) = some (l.map (Value.int .i64)).toArray.size := by simp only [List.size_toArray, List.length_map, hl]; kernel_rfl
theorem six_zero : (Tryz.prog.info? 36).bind (·.zero) = some (.agg (six0 []).toArray) := by kernel_rfl
set_option maxRecDepth 100000 in
set_option maxHeartbeats 4000000 in
theorem awake21 (w : World) : Calls Tryz.prog 7 #[] w fun r w' => r = .returned (.bool true) ∧ Below w.heap.size w w' := by
  have cN := Lib.hid (tnew_any w)
  go_enter Tryz.func7, Tryz.ntmps7
  go_upto_region 3 with (first
    | (go_at_call 8; refine cN.out.mono ?_; rintro r w1 ⟨A, rfl, hN, hA, hb⟩
       have hS0 := St.start hN hA hb
       have cK := Lib.hid (hS0.key (by decide) 1)
       clear hN hA hb cN hS0
       generalize A.g = g at *)
    | (go_at_call 33; refine cK.out.mono ?_; rintro r w2 ⟨L1, x1, rfl, h1, hG, hM, -, -⟩
       rw [kt1_eq] at hM
       have hl1 := hG.len
       have c6 := Lib.hid (six_any h1 (by have : L1.length ≤ 0 + 1 := hl1.2; omega) x1 x1 x1 _ _ _ hM hM hM)
       clear hG hM cK h1 hl1))
  go_upto_region 4 with (first
    | (go_at_call 11; refine c6.out.mono ?_; rintro r w3 ⟨l, L3, rfl, hl, hS3, _, _, hN3, _, _⟩
       obtain ⟨z, b5, r5, a5⟩ := six_box w3 l hl
       have hz := Lib.hid z
       have hr5 := Lib.hid r5
       have hlh := Lib.hid hl
       have ha5 := Lib.hid a5
       have hS4 := Lib.hid (hS3.keep b5)
       have hN3h := Lib.hid hN3
       clear z b5 r5 a5 hS3 hN3 c6)
    | (refine wpList_alloc_row 36 rfl rfl (six0 []).toArray six_zero ?_; try simp only [World.size_alloc])
    | (refine wpList_store_at 36 _ _ rfl rfl w3.heap.size (l.map (Value.int .i64)).toArray rfl rfl 36 (six0 []).toArray hz.out (six_info l hlh.out) (by simp [six0, hlh.out]) ha5.out ?_))
  replace hr5 := hr5.out
  replace hS4 := hS4.out
  generalize (w3.alloc (.cells (six0 []).toArray 36)).setRow w3.heap.size (l.map (Value.int .i64)).toArray = w4 at *
  generalize w3.heap.size = p3 at *
  obtain ⟨y, hy⟩ : ∃ y, l[3]? = some y := ⟨l[3]'(by have := hlh.out; omega), List.getElem?_eq_getElem _⟩
  have hM := hN3h.out.nm 3 y _ hy (sixT_at _ _ _ (by decide))
  rw [dt1_eq] at hM
  have c3 : w4.cell? ⟨p3, 3, none⟩ = some (.int .i64 y) := (cell_of_row w4 p3 3 _ _ _ hr5).trans (by rw [List.getElem?_toArray, List.getElem?_map, hy]; rfl)
  have cV := hS4.view_some y dt1 hM.1
  have hBz := Lib.hid hS4.below
  replace cV := Lib.hid cV
  clear hr5 hS4 hM hy hN3h hz
  go_upto_region 5 with (first
    | (go_at_call 34; refine cV.out.mono ?_; rintro r w5 ⟨Av, cv, xs, rfl, _, _, hb5⟩
       obtain ⟨z5, b6, r6⟩ := nd_box2 w5 8 0 68 [] Av 3 cv
       have hz5 := Lib.hid z5
       have hr6 := Lib.hid r6
       have hB6 := Lib.hid (hBz.out.trans ((hb5.trans (b6.mono hb5.size)).mono hBz.out.size))
       clear hb5 z5 b6 r6 cV)
    | (refine wpList_store_at 68 _ _ rfl rfl w5.heap.size (ndC 8 0 68 [] (.slice Av 3 cv)).toArray rfl rfl 68 zNd.toArray hz5.out (by kernel_rfl) rfl nd_all ?_))
  replace hr6 := hr6.out
  replace hB6 := hB6.out
  generalize (w5.alloc (.cells #[.int .i64 0, .int .i64 0, .int .i64 0, .string ⟨#[]⟩, .slice none 0 0] 68)).setRow w5.heap.size (ndC 8 0 68 [] (.slice Av 3 cv)).toArray = W6 at *
  generalize w5.heap.size = p4 at *
  have d0 : W6.cell? ⟨p4, 0, none⟩ = some (.int .i64 8) := cell_of_row W6 p4 0 _ _ _ hr6
  have d2 : W6.cell? ⟨p4, 2, none⟩ = some (.int .i64 68) := cell_of_row W6 p4 2 _ _ _ hr6
  have hB6h := Lib.hid hB6
  clear hr6 hB6 c3 hz5
  go_wp2_with fail
  go_ret
  exact ⟨rfl, hB6h.out⟩
end

section
open Go Go.RowKit

section
variable {P : Program} {ops : Array Oper} {Q : Exit → Act → World → Prop} {w : World} {o : Oper} {K : Act → World → Prop} {T : Array Value}
theorem st_append (hw : Region.wanted o (yielded ops T) = true) (s x : Operand) (t : TypeId)
    (ho : o.op = .call { callee := .builtin .append, args := #[s, x], argTypes := #[t, t] })
    (e : TypeId) (i : TypeInfo) (z : Value) (size bytes : Nat) (ht : P.underlying t = some (.slice e)) (hi : P.info? e = some i) (hz : i.zero = some z)
    (hsize : i.size = size) (hby : i.bytes = bytes) (hzs : z.cells.size = size) (hsz : 0 < size)
    (base : Nat) (hB : base ≤ w.heap.size) (v : Value) (zs : List (List Value)) (hs : (⟨T, []⟩ : Act).eval s = v) (hown : OwnR w base size e v zs)
    (g c : Nat) (row : List Value) (hx : (⟨T, []⟩ : Act).eval x = .slice (some ⟨g, 0, none⟩) 1 c) (hrow : w.rangeAt g 0 row) (hl : row.length = size) (h1 : ∀ u ∈ row, u.oneCell' = true)
    (h63 : zs.length + 1 ≤ maxLen) (hbytes : (zs.length + 1) * bytes ≤ 140737488355328)
    (h : ∀ v' w', OwnR w' base size e v' (zs ++ [row]) → w.grownBy w' v.ownBlock → (v'.ownBlock = v.ownBlock ∨ v'.ownBlock = some w.heap.size) → K ((⟨T, []⟩ : Act).put o.dst v') w') :
    if Region.wanted o (yielded ops T) = true then Oper.wp P o ⟨T, []⟩ w K Q else K ((⟨T, []⟩ : Act).put o.dst undef) w := by
  rw [if_pos hw]
  obtain ⟨v', w', hr, h2, h3, _, h5⟩ := run_append_own_at (P := P) (w := w) base t o.type e i z size bytes ht hi hz hsize hby hzs hsz v zs.length zs.flatten hown.1 ⟨g, 0, none⟩ 1 c row (by rw [hl, Nat.one_mul])
    (fun j u hu => by rw [Addr.add_mid]; exact hrow j u hu) h1 h63 hbytes hB
  unfold Oper.wp execOp
  simp only [ho, resolve, invoke, builtin, Sem.run_bind, Sem.run_pure, Result.andThen_ok, List.map_toArray, List.map_cons, List.map_nil, hs, hx, hr]
  refine h v' w' ⟨by simpa [List.length_append, List.flatten_append] using h2, fun z hz => ?_⟩ h3 h5
  rcases List.mem_append.1 hz with hz | hz
  · exact hown.2 z hz
  · simp only [List.mem_singleton] at hz
    subst hz
    exact hl
/-- 'var x T': a new block of zeros. -/
theorem run_alloc_ (ty : TypeId) (ho : o.op = .alloc ty) (cs : Array Value) (hz : (P.info? ty).bind (·.zero) = some (.agg cs)) : (execOp (⟨T, []⟩ : Act).eval o).run P w = .ok (.value (.pointer (some ⟨w.heap.size, 0, none⟩))) (w.alloc (.cells cs ty)) := by
  unfold execOp
  cases hq : P.info? ty with
  | none => simp [hq] at hz
  | some i =>
    have hzz : i.zero = some (.agg cs) := by simpa [hq] using hz
    simp [ho, Instr.alloc, zeroValue, typeInfo, hq, hzz, newVar, newRow, Value.cells]
/-- '*p = x', the block whole. -/
theorem run_store_ (ty : TypeId) (x y : Operand) (ho : o.op = .store ty x y) (g : Nat) (cells : Array Value) (hx : (⟨T, []⟩ : Act).eval x = .pointer (some ⟨g, 0, none⟩)) (hy : (⟨T, []⟩ : Act).eval y = .agg cells)
    (t : TypeId) (old : Array Value) (hg : w.heap[g]? = some (.cells old t (0, 0))) (hi : (P.info? ty).map (·.size) = some cells.size) (hold : old.size = cells.size) (h1 : cells.all (·.oneCell') = true) :
    (execOp (⟨T, []⟩ : Act).eval o).run P w = .ok .skip (w.setRow g cells) := by
  unfold execOp
  simp only [ho, hx, hy, Instr.storeAt, Instr.sureAddr, Sem.run_bind, Sem.run_pure, Result.andThen_ok, run_storeVar_row w g t ty old cells hg hi hold h1]
/-- 'x == y' at structs and arrays. -/
theorem run_eql_at_ (t t' : TypeId) (x y : Operand) (ho : o.op = .binOp .eql t x y t') (xs ys : Array Value) (hx : (⟨T, []⟩ : Act).eval x = .agg xs) (hy : (⟨T, []⟩ : Act).eval y = .agg ys)
    (hm : P.eqGuardType P.depth t = false) (q : Bool) (hq : (binOp .eql t (.agg xs) (.agg ys)).run P w = .ok (.bool q) w) : (execOp (⟨T, []⟩ : Act).eval o).run P w = .ok (.value (.bool q)) w := by
  unfold execOp
  simp only [ho, hx, hy, Sem.run_bind, run_eqGuard_agg w .eql t x y xs ys hm, Result.andThen_ok, hq, Sem.run_pure]
/-- 'x := *p', a struct or an array. -/
theorem run_load_ (ty : TypeId) (x : Operand) (ho : o.op = .load ty x) (b off : Nat) (hx : (⟨T, []⟩ : Act).eval x = .pointer (some ⟨b, off, none⟩)) (cs : List Value) (d : TypeDesc) (hc : w.rangeAt b off cs)
    (hu : P.underlying ty = some d) (hd : d.isRow = true) (hi : (P.info? ty).map (·.size) = some cs.length) : (execOp (⟨T, []⟩ : Act).eval o).run P w = .ok (.value (.agg cs.toArray)) w := by
  unfold execOp
  simp only [ho, hx, Instr.loadAt, Instr.sureAddr, Sem.run_bind, Sem.run_pure, Result.andThen_ok, run_loadVar_mid w b off ty cs d hc hu hd hi]
end
end
end Go.Proofs.YtbeanjaenmpoeaaGreatDoor
