/- The walk of ScriptReads. (printed by wip/gen_smd.py) -/
import Derived.Test.YtmicohmbmgbnkaaGreatDoorYb40
namespace Go.Proofs.YtmicohmbmgbnkaaGreatDoor
open Go Go.RowKit Go.Shelf
open Go.Lib (itoa)

theorem tok_len : ∀ {ks : KT} {vs : List PV}, vs.length = ks.length → ∀ v ∈ vs, wrPV v = [] ∨ ∃ t ∈ tokens ks vs, (wrPV v).length ≤ t.length
  | _, [], _, v, hv => by cases hv
  | [], _ :: _, h, _, _ => by cases h
  | (k, g) :: ks, x :: vs, h, v, hv => by
    rcases List.mem_cons.1 hv with rfl | hv
    · by_cases h0 : wrPV v = []
      · exact .inl h0
      · exact .inr ⟨k ++ 61 :: wrPV v, by rw [tokens, if_neg h0]; exact List.mem_cons_self, by simp; omega⟩
    · rcases tok_len (ks := ks) (vs := vs) (by simpa using h) v hv with h1 | ⟨t, ht, h1⟩
      · exact .inl h1
      · exact .inr ⟨t, by rw [tokens]; split; exact ht; exact List.mem_cons_of_mem _ ht, h1⟩
theorem line_len {k : Nat} {vs : List PV} (hok : OkVs keyT vs) : ∀ v ∈ vs, (wrPV v).length ≤ (lineX k vs).length := fun v hv => by
  rcases tok_len hok.len v hv with h | ⟨t, ht, h⟩
  · rw [h]; exact Nat.zero_le _
  · refine Nat.le_trans h ?_
    unfold lineX
    exact joinL_len_le (List.mem_cons_of_mem _ ht)
theorem gr_len {l : List GrX} {g : GrX} (hg : g ∈ l) : g.user.length ≤ (wrPV (.grants l)).length := by
  have h1 : (wrGr g).length ≤ (joinL 44 (l.map wrGr)).length := joinL_len_le (List.mem_map_of_mem hg)
  have h2 : (escL g.user).length ≤ (wrGr g).length := joinL_len_le (c := 58) (ps := [escL g.user, itoa g.who]) List.mem_cons_self
  exact Nat.le_trans (Nat.le_trans (escL_le _) h2) h1
theorem op_len9 {l : List OpX} {o : OpX} (hg : o ∈ l) : o.s.length ≤ (wrPV (.ops l)).length := by
  have h1 : (wrOp o).length ≤ (joinL 44 (l.map wrOp)).length := joinL_len_le (List.mem_map_of_mem hg)
  have h2 : (escL o.s).length ≤ (wrOp o).length := joinL_len_le (c := 58) (ps := [opW.getD o.kind.toNat [], itoa o.a, itoa o.b, itoa o.c, escL o.s]) (by simp)
  exact Nat.le_trans (Nat.le_trans (escL_le _) h2) h1
theorem toks_bad : ∀ {toks : List (List UInt8)} {ks : KT} {a : List UInt8} {M : Nat}, rdToks ks toks = .bad a → (∀ t ∈ toks, t.length ≤ M) → a.length ≤ M + 3
  | [], ks, a, M, h, _ => by rw [rdToks] at h; cases h
  | t :: toks, ks, a, M, h, hM => by
    have hc := cutL_len 61 t
    have ht := hM t List.mem_cons_self
    rw [rdToks] at h
    cases hp : placeL (ks.map (·.1)) (cutL 61 t).1 with
    | none => rw [hp] at h; injection h with h; subst h; show 3 ≤ _; omega
    | some i =>
      rw [hp] at h
      dsimp only at h
      split at h
      · injection h with h; subst h; show 3 ≤ _; omega
      · cases hk : ks[i]? with
        | none => rw [hk] at h; injection h with h; subst h; show 3 ≤ _; omega
        | some kg =>
          rw [hk] at h
          dsimp only at h
          cases ho : okP kg.2 (cutL 61 t).2.1 with
          | none => rw [ho] at h; injection h with h; subst h; omega
          | some pv =>
            rw [ho] at h
            dsimp only at h
            cases hr : rdToks (ks.drop (i + 1)) toks with
            | ok vs => rw [hr] at h; cases h
            | bad b => rw [hr] at h; injection h with h; subst h; exact toks_bad hr fun t ht => hM t (List.mem_cons_of_mem _ ht)
theorem line_bad {L a : List UInt8} (h : rdLine L = .bad a) : a.length ≤ L.length + 4 := by
  unfold rdLine at h
  have hm := fun t (ht : t ∈ splitL 32 L) => split_size t ht
  cases hs : splitL 32 L with
  | nil => rw [hs, rdParts] at h; injection h with h; subst h; show 4 ≤ _; omega
  | cons w toks =>
    rw [hs, rdParts] at h
    cases hp : placeL kindW w with
    | none => rw [hp] at h; injection h with h; subst h; show 4 ≤ _; omega
    | some k =>
      rw [hp] at h
      dsimp only at h
      cases hr : rdToks keyT toks with
      | ok vs => rw [hr] at h; cases h
      | bad b =>
        rw [hr] at h
        injection h with h
        subst h
        have := toks_bad (M := L.length) hr fun t ht => hm t (by rw [hs]; exact List.mem_cons_of_mem _ ht)
        omega
theorem stc_zero (W : World) : StC W 0 (zeros keyT) (stZ 0) := (StN.zero_ 0 W 0).c
theorem zeros_gr : ∀ l, (zeros keyT)[18]? = some (.grants l) → ∀ g ∈ l, g.user.length ≤ 281474976710656 := fun l h => by
  injection (show some (PV.grants []) = some (PV.grants l) from h) with h
  injection h with h
  subst h
  intro g hg; cases hg
theorem zeros_op : ∀ l, (zeros keyT)[3]? = some (.ops l) → ∀ o ∈ l, o.s.length ≤ 281474976710656 := fun l h => by
  injection (show some (PV.ops []) = some (PV.ops l) from h) with h
  injection h with h
  subst h
  intro g hg; cases hg
theorem lay_step (w : World) {ds : List Value} (hl : ds.length = 29) : Row ((w.alloc (.cells (stZ 0).toArray 44)).setRow w.heap.size ds.toArray) w.heap.size 44 ds ∧ Below w.heap.size w ((w.alloc (.cells (stZ 0).toArray 44)).setRow w.heap.size ds.toArray) :=
  ⟨Row.setRow (show Row (w.alloc (.cells (stZ 0).toArray 44)) w.heap.size 44 (stZ 0) from heap_new w _) ds, below_setRow (below_new w _) (Nat.le_refl _) _⟩
theorem lay_two (w : World) {ds es : List Value} : Row ((w.alloc (.cells (stZ 0).toArray 44)).alloc (.cells erZ 53)) w.heap.size 44 (stZ 0) ∧ Row (((w.alloc (.cells (stZ 0).toArray 44)).alloc (.cells erZ 53)).setRow w.heap.size ds.toArray) (w.heap.size + 1) 53 erL
    ∧ Row ((((w.alloc (.cells (stZ 0).toArray 44)).alloc (.cells erZ 53)).setRow w.heap.size ds.toArray).setRow (w.heap.size + 1) es.toArray) w.heap.size 44 ds
    ∧ Row ((((w.alloc (.cells (stZ 0).toArray 44)).alloc (.cells erZ 53)).setRow w.heap.size ds.toArray).setRow (w.heap.size + 1) es.toArray) (w.heap.size + 1) 53 es
    ∧ Below w.heap.size w ((((w.alloc (.cells (stZ 0).toArray 44)).alloc (.cells erZ 53)).setRow w.heap.size ds.toArray).setRow (w.heap.size + 1) es.toArray) := by
  have h1 : Row ((w.alloc (.cells (stZ 0).toArray 44)).alloc (.cells erZ 53)) w.heap.size 44 (stZ 0) := Row.keep (heap_new w _) (below_new _ _)
  have h2 : Row ((w.alloc (.cells (stZ 0).toArray 44)).alloc (.cells erZ 53)) (w.heap.size + 1) 53 erL := by have := heap_new (w.alloc (.cells (stZ 0).toArray 44)) (.cells erZ 53); rwa [World.size_alloc] at this
  have hb := (below_new w (.cells (stZ 0).toArray 44)).trans ((below_new (w.alloc (.cells (stZ 0).toArray 44)) (.cells erZ 53)).mono (by simp))
  have h3 := h2.setRow_other (b2 := w.heap.size) (by omega) ds.toArray
  exact ⟨h1, h3, (h1.setRow ds).setRow_other (by omega) es.toArray, h3.setRow es, below_setRow (below_setRow hb (Nat.le_refl _) _) (Nat.le_succ _) _⟩
set_option maxRecDepth 100000 in
set_option maxHeartbeats 8000000 in
theorem law_scriptReads (s : ByteArray) (V : World) (E : EnvS V) (G : ETy V) (hs : s.size ≤ 9223372036854775807) :
    Calls Tryz.prog 6 #[.string s] V fun r w' => r = .returned (.bool true) ∧ Below V.heap.size V w' := by
  have cA := Lib.hid (fun W' (h : Below V.heap.size V W') => awake35_any W' (E.keep h E.size))
  by_cases h1 : 3000 < s.size
  · have hd := Lib.hid (cA.out V (Below.refl _ _))
    have k1 : (3000 : Int) < (s.size : Int) := by omega
    go_enter Tryz.func6, Tryz.ntmps6
    go_wp2_with (go_at_call 9; (with_reducible refine hd.out.mono ?_); rintro r w1 ⟨rfl, hb1⟩; replace hb1 := Lib.hid hb1)
    go_ret
    exact ⟨rfl, hb1.out⟩
  · have k1 : ¬ (3000 : Int) < (s.size : Int) := by omega
    have hsl : s.data.toList.length = s.size := by rw [Array.length_toList]; rfl
    have hGk := Lib.hid (fun W' (h : Below V.heap.size V W') => G.keep h)
    have hEk := Lib.hid (fun W' (h : Below V.heap.size V W') => E.keep h E.size)
    cases hrd : rdLine s.data.toList with
    | bad a =>
      have hal := line_bad hrd
      have cP := (read_line s V E (by omega)).mono (fun (r : Ending) (w' : World) h => (by
        rcases h with ⟨k, vs, cs, h1, _⟩ | ⟨b, e, h1, h2, h3, h4⟩
        · rw [hrd] at h1; cases h1
        · rw [hrd] at h1; injection h1 with h1; subst h1; exact ⟨e, h2, h3, h4⟩ : ∃ e, r = Ending.returned (.tuple #[.agg (stZ 0).toArray, e]) ∧ isErr w' (some 3) [bs a] e ∧ Below V.heap.size V w'))
      have cR := Lib.hid (fun W' => (rread_any s W' (by omega)).mono (fun (r : Ending) (w' : World) h => (by
        rcases h with ⟨k, vs, cs, h1, _⟩ | ⟨b, h1, h2, h3⟩
        · rw [hrd] at h1; cases h1
        · rw [hrd] at h1; injection h1 with h1; subst h1; exact ⟨h2, h3⟩ : r = Ending.returned (.tuple #[.agg (stZ 0).toArray, .agg (erB a).toArray]) ∧ Below W'.heap.size W' w')))
      have cT := Lib.hid (fun W' e (h : Below V.heap.size V W') (hm : isErr W' (some 3) [bs a] e) => told_any 3 [bs a] e W' (bs a ++ ⟨#[32]⟩) (by decide) (spS_one _).symm (by show 1 ≤ 20; decide) (by rw [spS_one, ByteArray.size_append, bs_size]; have : (⟨#[32]⟩ : ByteArray).size = 1 := rfl; omega) hm (hGk.out W' h))
      have cS := Lib.hid (fun W' => same35_any (stZ 0) (stZ 0) 0 (zeros keyT) W' (stc_zero W') (stc_zero W') (OkVs.zeros_ keyT) zeros_gr zeros_op)
      replace cP := Lib.hid cP
      unfold erB at cR
      generalize bs a ++ ⟨#[32]⟩ = ye at *
      clear hrd hal h1 hsl
      go_enter Tryz.func6, Tryz.ntmps6
      go_upto_region 4 with (first
        | (go_at_call 22; (with_reducible refine cP.out.mono ?_); rintro r w1 ⟨e, rfl, hm1, hb1⟩
           obtain ⟨T9, u9, rfl⟩ := isErr_some hm1
           have hz1 := heap_new w1 (.cells (stZ 0).toArray 44)
           obtain ⟨hR1, hb2⟩ := lay_step w1 (ds := stZ 0) rfl
           have hB2 := Lib.hid (hb1.trans (hb2.mono hb1.size))
           have hm2 := Lib.hid (hm1.keep hb2)
           clear hb1 hb2 hm1)
        | (refine wpList_alloc_row 44 rfl rfl (stZ 0).toArray st_zero ?_)
        | (refine wpList_store_at 44 _ _ rfl rfl w1.heap.size (stZ 0).toArray rfl rfl 44 (stZ 0).toArray hz1 (by kernel_rfl) rfl stZ_one ?_))
      generalize (w1.alloc (.cells (stZ 0).toArray 44)).setRow w1.heap.size (stZ 0).toArray = w2 at *
      generalize w1.heap.size = p3 at *
      clear hz1
      go_upto_region 5 with (first
        | (go_at_call 24; (with_reducible refine (cR.out w2).mono ?_); rintro r w3 ⟨rfl, hb3⟩
           obtain ⟨q1, q2, q3, q4, hb4⟩ := lay_two w3 (ds := stZ 0) (es := [.int .i64 3, .string ye])
           have hb5 := hb3.trans (hb4.mono hb3.size)
           have hB5 := Lib.hid (hB2.out.trans (hb5.mono hB2.out.size))
           have hm5 := Lib.hid (hm2.out.keep hb5)
           have hR5 := hR1.keep hb5
           have hc5 := q4.cell (off := 0) (v := .int .i64 3) rfl
           unfold Row at q1 q2
           clear hb3 hb4 hb5)
        | (refine wpList_alloc_row 44 rfl rfl (stZ 0).toArray st_zero ?_; try simp only [World.size_alloc])
        | (refine wpList_alloc_row 53 rfl rfl erZ er_zero ?_; try simp only [World.size_alloc])
        | (refine wpList_store_at 44 _ _ rfl rfl w3.heap.size (stZ 0).toArray rfl rfl 44 (stZ 0).toArray q1 (by kernel_rfl) rfl stZ_one ?_)
        | (refine wpList_store_at 53 _ _ rfl rfl (w3.heap.size + 1) #[.int .i64 3, .string ye] rfl rfl 53 erL.toArray q2 (by kernel_rfl) rfl (by simp [Value.oneCell']) ?_))
      have q4' := q4.range
      have q5 := hR5.range
      generalize (((w3.alloc (.cells (stZ 0).toArray 44)).alloc (.cells erZ 53)).setRow w3.heap.size (stZ 0).toArray).setRow (w3.heap.size + 1) [.int .i64 3, .string ye].toArray = w5 at *
      generalize w3.heap.size = p5 at *
      have hd := Lib.hid (cA.out w5 hB5.out)
      have hst9 := st_in9 (stZ 0) rfl
      have hpl4 := q4.lt
      have hpl5 := hR5.lt
      clear q1 q2 q3
      go_wp2_with (first
        | (go_at_call 9; (with_reducible refine hd.out.mono ?_); rintro r w6 ⟨rfl, hb6⟩
           have hB6 := Lib.hid (hB5.out.trans (hb6.mono hB5.out.size))
           have q6 := (q4.keep hb6).range
           have q7 := hR5.keep hb6
           have cT6 := Lib.hid (cT.out w6 _ hB6.out (hm5.out.keep hb6))
           clear hb6)
        | (refine wpList_load_at 53 _ rfl rfl (p5 + 1) 0 rfl [.int .i64 3, .string ye] _ q6 Tryz.underlying53 rfl (by kernel_rfl) ?_)
        | (go_at_call 21; (with_reducible refine cT6.out.mono ?_); rintro r w7 ⟨rfl, hb7⟩
           have hB7 := Lib.hid (hB6.out.trans (hb7.mono hB6.out.size))
           have q8 := (q7.keep hb7).range
           clear hb7)
        | (refine wpList_load_at 44 _ rfl rfl p3 0 rfl (stZ 0) _ q8 Tryz.underlying44 rfl hst9 ?_)
        | (refine wpList_build_as 44 _ rfl rfl (stZ 0).toArray st_built0 ?_)
        | (go_at_call 23; (with_reducible refine (cS.out w7).mono ?_); rintro r w8 ⟨rfl, hb8⟩; have hB8 := Lib.hid (hB7.out.trans (hb8.mono hB7.out.size)); clear hb8))
      go_ret
      exact ⟨rfl, hB8.out⟩
    | ok k vs =>
      obtain ⟨hlx, hok, hk9⟩ := rdLine_some hrd
      have hvl := fun v hv => line_len (k := k) hok v hv
      rw [hlx] at hvl
      have hgl : ∀ l, vs[18]? = some (.grants l) → ∀ g ∈ l, g.user.length ≤ 281474976710656 := fun l h g hg => by have h1 := gr_len hg; have h2 := hvl _ (List.mem_of_getElem? h); omega
      have hol : ∀ l, vs[3]? = some (.ops l) → ∀ o ∈ l, o.s.length ≤ 281474976710656 := fun l h g hg => by have h1 := op_len9 hg; have h2 := hvl _ (List.mem_of_getElem? h); omega
      have cP := (read_line s V E (by omega)).mono (fun (r : Ending) (w' : World) h => (by
        rcases h with ⟨k', vs', cs, h1, h2, h3, _, h4⟩ | ⟨b, e, h1, _⟩
        · rw [hrd] at h1; injection h1 with e1 e2; subst e1 e2; exact ⟨cs, h2, h3, h4⟩
        · exact (nomatch (hrd.symm.trans h1)) : ∃ cs : List Value, r = Ending.returned (.tuple #[.agg cs.toArray, .nilIface]) ∧ StC w' k vs cs ∧ Below V.heap.size V w'))
      have cR := Lib.hid (fun W' => (rread_any s W' (by omega)).mono (fun (r : Ending) (w' : World) h => (by
        rcases h with ⟨k', vs', cs, h1, h2, h3, _, h4⟩ | ⟨b, h1, _⟩
        · rw [hrd] at h1; injection h1 with e1 e2; subst e1 e2; exact ⟨cs, h2, h3, h4⟩
        · exact (nomatch (hrd.symm.trans h1)) : ∃ cs : List Value, r = Ending.returned (.tuple #[.agg cs.toArray, .agg erZ]) ∧ StC w' k vs cs ∧ Below W'.heap.size W' w')))
      have cL := Lib.hid (fun W' cs (h : Below V.heap.size V W') (hS : StC W' k vs cs) => (line_go cs k vs W' (hEk.out W' h) hS hok.ty ⟨by omega, by omega⟩ (fun v hv => by have := hvl v hv; omega)).mono (fun (r : Ending) (w' : World) h => (by
        rcases h with ⟨⟨o, ho, hno⟩, _⟩ | ⟨_, h2, h3⟩
        · exfalso
          obtain ⟨l, hl3, hol3, _⟩ := hok.ty.ops
          rw [hol3] at ho
          have := hok.at (i := 3) rfl hl3 o ho
          exact hno ⟨this.1, this.2.1⟩
        · refine ⟨?_, h3⟩
          rw [h2, hlx, bs_back] : r = Ending.returned (.tuple #[.string s, .nilIface]) ∧ Below W'.heap.size W' w')))
      have cS := Lib.hid (fun W' cs ds (hS : StC W' k vs cs) (hT : StC W' k vs ds) => same35_any cs ds k vs W' hS hT hok hgl hol)
      replace cP := Lib.hid cP
      clear hrd h1 hsl hlx hvl hgl hol
      go_enter Tryz.func6, Tryz.ntmps6
      go_upto_region 4 with (first
        | (go_at_call 22; (with_reducible refine cP.out.mono ?_); rintro r w1 ⟨cs, rfl, hm1, hb1⟩
           have hz1 := heap_new w1 (.cells (stZ 0).toArray 44)
           obtain ⟨hR1, hb2⟩ := lay_step w1 (ds := cs) hm1.len
           have j1 := st_in9' cs hm1.len
           have j2 := st_old cs hm1.len
           have j3 := hm1.one
           have j4 := st_in9 cs hm1.len
           have hB2 := Lib.hid (hb1.trans (hb2.mono hb1.size))
           have hm2 := Lib.hid (hm1.keep hb2)
           clear hb1 hb2 hm1)
        | (refine wpList_alloc_row 44 rfl rfl (stZ 0).toArray st_zero ?_)
        | (refine wpList_store_at 44 _ _ rfl rfl w1.heap.size cs.toArray rfl rfl 44 (stZ 0).toArray hz1 j1 j2 j3 ?_))
      generalize (w1.alloc (.cells (stZ 0).toArray 44)).setRow w1.heap.size cs.toArray = w2 at *
      generalize w1.heap.size = p3 at *
      clear hz1
      go_upto_region 5 with (first
        | (go_at_call 24; (with_reducible refine (cR.out w2).mono ?_); rintro r w3 ⟨ds, rfl, hm3, hb3⟩
           obtain ⟨q1, q2, q3, q4, hb4⟩ := lay_two w3 (ds := ds) (es := erL)
           have i1 := st_in9' ds hm3.len
           have i2 := st_old ds hm3.len
           have i3 := hm3.one
           have i4 := st_in9 ds hm3.len
           have hb5 := hb3.trans (hb4.mono hb3.size)
           have hB5 := Lib.hid (hB2.out.trans (hb5.mono hB2.out.size))
           have hm5 := Lib.hid (hm2.out.keep hb5)
           have hm6 := Lib.hid (hm3.keep hb4)
           have hR5 := hR1.keep hb5
           have hc5 := q4.cell (off := 0) (v := .int .i64 0) rfl
           unfold Row at q1 q2
           clear hb3 hb4 hb5 hm3)
        | (refine wpList_alloc_row 44 rfl rfl (stZ 0).toArray st_zero ?_; try simp only [World.size_alloc])
        | (refine wpList_alloc_row 53 rfl rfl erZ er_zero ?_; try simp only [World.size_alloc])
        | (refine wpList_store_at 44 _ _ rfl rfl w3.heap.size ds.toArray rfl rfl 44 (stZ 0).toArray q1 i1 i2 i3 ?_)
        | (refine wpList_store_at 53 _ _ rfl rfl (w3.heap.size + 1) erL.toArray rfl rfl 53 erL.toArray q2 (by kernel_rfl) rfl (by decide +kernel) ?_))
      have q5 := hR5.range
      generalize (((w3.alloc (.cells (stZ 0).toArray 44)).alloc (.cells erZ 53)).setRow w3.heap.size ds.toArray).setRow (w3.heap.size + 1) erL.toArray = w5 at *
      generalize w3.heap.size = p5 at *
      have cL5 := Lib.hid (cL.out w5 cs hB5.out hm5.out)
      clear q1 q2
      go_upto_region 8 with (first
        | (refine wpList_load_at 44 _ rfl rfl p3 0 rfl cs _ q5 Tryz.underlying44 rfl j4 ?_)
        | (go_at_call 19; (with_reducible refine cL5.out.mono ?_); rintro r w6 ⟨rfl, hb6⟩
           have hB6 := Lib.hid (hB5.out.trans (hb6.mono hB5.out.size))
           have hR6 := hR5.keep hb6
           have q6 := q3.keep hb6
           have hm7 := Lib.hid (hm5.out.keep hb6)
           have hm8 := Lib.hid (hm6.out.keep hb6)
           have hd := Lib.hid (cA.out w6 hB6.out)
           clear hb6))
      go_wp2_with (first
        | (go_at_call 9; (with_reducible refine hd.out.mono ?_); rintro r w7 ⟨rfl, hb7⟩
           have hB7 := Lib.hid (hB6.out.trans (hb7.mono hB6.out.size))
           have q7 := (hR6.keep hb7).range
           have q8 := (q6.keep hb7).range
           have cS7 := Lib.hid (cS.out w7 cs ds (hm7.out.keep hb7) (hm8.out.keep hb7))
           clear hb7)
        | (refine wpList_load_at 44 _ rfl rfl p3 0 rfl cs _ q7 Tryz.underlying44 rfl j4 ?_)
        | (refine wpList_load_at 44 _ rfl rfl p5 0 rfl ds _ q8 Tryz.underlying44 rfl i4 ?_)
        | (go_at_call 23; (with_reducible refine cS7.out.mono ?_); rintro r w8 ⟨rfl, hb8⟩; have hB8 := Lib.hid (hB7.out.trans (hb8.mono hB7.out.size)); clear hb8))
      go_ret
      exact ⟨by simp, hB8.out⟩
end Go.Proofs.YtmicohmbmgbnkaaGreatDoor
