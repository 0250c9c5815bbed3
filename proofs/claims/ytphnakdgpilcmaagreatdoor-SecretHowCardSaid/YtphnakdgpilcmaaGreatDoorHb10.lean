/- Arenas: the walk of Exp. -/
import Derived.Test.YtphnakdgpilcmaaGreatDoorHb9
import Derived.Test.YtphnakdgpilcmaaGreatDoorHb2
namespace Go.Proofs.YtphnakdgpilcmaaGreatDoor
open Go.RowKit Go.Maps

def tmO (o : Option Tm) : Tm := o.getD (.mk 0 0 0 [] [])
theorem Dat.of_own {w : World} {base : Nat} {v : Value} {zs : List Nat} (h : OwnR w base 1 33 v (zs.map idv)) (hp : 0 < zs.length) : ∃ q c, v = .slice (some ⟨q, 0, none⟩) zs.length c ∧ base ≤ q ∧ Dat w q zs := by
  obtain ⟨A, c, e, hr⟩ := h.rws
  rw [List.length_map] at hr e
  rcases h.1.2 with ⟨_, h0⟩ | ⟨g, cap, cur, e2, hg, hc, _⟩
  · rw [List.length_map] at h0; omega
  · rw [e] at e2
    injection e2 with e1 e3 e4
    subst e1
    refine ⟨g, c, e, hg, cur, hc, fun j x hx => ?_⟩
    have hj := (List.getElem?_eq_some_iff.1 hx).1
    have hcell := cell_of_row w g j _ _ _ hc
    obtain ⟨b, off, z, ea, _, hz, _, hrr⟩ := hr.row hj
    injection ea with ea
    injection ea with ea1 ea2 _
    subst ea1 ea2
    rw [List.getElem?_map, hx] at hz
    simp only [Option.map_some, Option.some.injEq] at hz
    subst hz
    have := hrr 0 _ rfl
    rw [Nat.mul_one, Nat.add_zero, Nat.zero_add] at this
    rw [← hcell, this]
theorem Dat.ints {w : World} {q : Nat} {zs : List Nat} (h : Dat w q zs) : Ints w (some ⟨q, 0, none⟩) zs.length (zs.map Int.ofNat) := by
  refine ⟨by simp, by simp [iv], fun hp => ⟨q, 0, rfl, h.lt, fun j z hz i v hv => ?_⟩⟩
  rw [List.getElem?_map, List.getElem?_map] at hz
  cases e : zs[j]? with
  | none => rw [e] at hz; cases hz
  | some x =>
    rw [e] at hz
    simp only [Option.map_some, Option.some.injEq] at hz
    subst hz
    have hi := (List.getElem?_eq_some_iff.1 hv).1
    simp only [iv, List.length_cons, List.length_nil] at hi
    obtain rfl : i = 0 := by omega
    obtain rfl := Option.some.inj hv
    rw [Nat.zero_add, Nat.mul_one, Nat.add_zero]
    exact h.cell e
/-- What Exp's list names. -/
theorem exp_list {L : List Tm} {xs : List Nat} {args : List Tm} {j : Nat} {tx : Tm} (hx : xs.map (fun i => L[i]?) = args.map some) (hj : L[j]? = some tx) :
    ((insI (fun z => tmO L[z]?) j xs).map Int.ofNat).map (get L) = (ins tx args).map some := by
  have h0 : ∀ z ∈ xs, L[z]? = some (tmO L[z]?) := by
    intro z hz
    have : L[z]? ∈ xs.map (fun i => L[i]?) := List.mem_map.2 ⟨z, hz, rfl⟩
    rw [hx] at this
    obtain ⟨t, _, e⟩ := List.mem_map.1 this
    rw [← e]; rfl
  have h1 : xs.map (fun z => tmO L[z]?) = args := by
    have := congrArg (List.map tmO) hx
    rw [List.map_map, List.map_map] at this
    simpa [Function.comp_def, tmO] using this
  have h2 : (insI (fun z => tmO L[z]?) j xs).map (fun z => tmO L[z]?) = ins tx args := by
    rw [insI_map, h1, hj]; rfl
  rw [← h2, List.map_map, List.map_map]
  refine List.map_congr_left fun z hz => ?_
  show get L (z : Int) = some (tmO L[z]?)
  rw [get_nat]
  rcases insI_mem.1 hz with rfl | hz
  · rw [hj]; rfl
  · exact h0 z hz
def lt8 (o : Option Tm) : Bool := match o with | none => true | some t => decide (t.args.length < 8)
theorem expT_bad {so xo : Option Tm} (h : ¬ (kindO so = 5 ∧ kindO xo = 2 ∧ (∀ t, so = some t → t.args.length < 8))) : expT so xo = none := by
  cases so with
  | none => rfl
  | some s =>
    cases xo with
    | none => rfl
    | some x =>
      show (if s.kind = 5 ∧ x.kind = 2 ∧ s.args.length < 8 then _ else none) = none
      rw [if_neg]
      rintro ⟨h1, h2, h3⟩
      exact h ⟨h1, h2, fun t ht => by obtain rfl := Option.some.inj ht; exact h3⟩
theorem kindO_some {o : Option Tm} {k : Nat} (hk : 0 < k) (h : kindO o = k) : ∃ t, o = some t ∧ t.kind = k := by
  cases o with
  | none => simp [kindO] at h; omega
  | some t => exact ⟨t, rfl, h⟩
theorem append_id : (Tryz.prog.info? 33).map (fun i => (i.zero, i.size, i.bytes)) = some (some (.int .i64 0), 1, 8) := by kernel_rfl
section
variable (A : Ar) (B : Nat) (w : World) (H : Arena w B A) (hB : B ≤ w.heap.size) (hN : A.N.length < 100)
include H hB hN
omit hB hN in
set_option maxRecDepth 100000 in
set_option maxHeartbeats 8000000 in
theorem exp_no (s x : Int) (h : ¬ (kindO (get A.L s) = 5 ∧ kindO (get A.L x) = 2 ∧ (∀ t, get A.L s = some t → t.args.length < 8))) :
    Calls Tryz.prog 27 #[.pointer (some ⟨A.g, 0, none⟩), .int .i64 s, .int .i64 x] w (PutR w B A (expT (get A.L s) (get A.L x))) := by
  have hR := Lib.hid (PutR.none_ H (Below.refl _ _) (expT_bad h))
  have cS : Calls Tryz.prog 49 #[.pointer (some ⟨A.g, 0, none⟩), .int .i64 s, .int .i64 5] w fun r w' => r = .returned (.bool (isB A s 5)) ∧ w = w' := is_any A B s 5 w H
  have cX : Calls Tryz.prog 49 #[.pointer (some ⟨A.g, 0, none⟩), .int .i64 x, .int .i64 2] w fun r w' => r = .returned (.bool (isB A x 2)) ∧ w = w' := is_any A B x 2 w H
  rw [isB_eq (by decide)] at cS cX
  by_cases h1 : kindO (get A.L s) = 5
  · rw [show (kindO (get A.L s) == 5) = true by simp [h1]] at cS
    by_cases h2 : kindO (get A.L x) = 2
    · rw [show (kindO (get A.L x) == 2) = true by simp [h2]] at cX
      obtain ⟨t, ht, hk⟩ := kindO_some (by decide) h1
      have h8 : 8 ≤ t.args.length := by
        rcases Nat.lt_or_ge t.args.length 8 with hlt | hge
        · exact absurd ⟨h1, h2, fun u hu => by rw [ht] at hu; obtain rfl := Option.some.inj hu; exact hlt⟩ h
        · exact hge
      obtain ⟨j, rfl, hj⟩ := get_some ht
      obtain ⟨nd, hnd, rfl⟩ := Ar.N_at hj
      obtain ⟨Ai, ci, ev, hI, _⟩ := H.ids nd (List.mem_of_getElem? hnd)
      have hargs := H.args nd (List.mem_of_getElem? hnd)
      have hxl : nd.xs.length = nd.t.args.length := by have := congrArg List.length hargs; simpa using this
      obtain ⟨An, cn, As, cs, e1, e2, c0, c1, c2, hr1, hr2⟩ := H.open_
      obtain ⟨b, off, cn', e1', hb, hr, hjl⟩ := H.node hnd
      rw [e1] at e1'
      injection e1' with e3 e4 e5
      subst e3
      obtain ⟨_, _, _, _, f4⟩ := Nd.flds hr
      rw [ev, hxl] at f4
      generalize nd.t.args.length = na at *
      have i1 : (0 : Int) ≤ (j : Int) := by omega
      have i2 : (j : Int) < (A.N.length : Int) := by omega
      generalize A.N.length = n at *
      have hna : ¬ na < 8 := by omega
      have hna2 : na ≤ 1000000 := by
        have hok := H.good.ok nd.t (List.mem_of_getElem? (Ar.L_at hnd))
        obtain ⟨⟨k, a, b, s, args⟩, v, ys⟩ := nd
        rw [ok_mk] at hok
        have := hok.1
        unfold okHd at this
        have h3 : args.length = ys.length := by have := congrArg List.length hargs; simpa [Tm.args] using this.symm
        simp only at hxl
        omega
      have cS := Lib.hid cS
      have cX := Lib.hid cX
      clear H hr hj hnd e1 e2 hr1 hr2 h h1 h2 ht hk hI hargs ev hxl c1 c2 e4 e5 hjl
      go_enter Tryz.func27, Tryz.ntmps27
      go_wp2_with (first
        | (go_at_call 49; (with_reducible refine cS.out.mono ?_); rintro r w1 ⟨rfl, rfl⟩)
        | (go_at_call 49; (with_reducible refine cX.out.mono ?_); rintro r w1 ⟨rfl, rfl⟩))
      go_ret
      exact hR.out
    · rw [show (kindO (get A.L x) == 2) = false by simp [h2]] at cX
      have cS := Lib.hid cS
      have cX := Lib.hid cX
      clear H h h1 h2
      go_enter Tryz.func27, Tryz.ntmps27
      go_wp2_with (first
        | (go_at_call 49; (with_reducible refine cS.out.mono ?_); rintro r w1 ⟨rfl, rfl⟩)
        | (go_at_call 49; (with_reducible refine cX.out.mono ?_); rintro r w1 ⟨rfl, rfl⟩))
      go_ret
      exact hR.out
  · rw [show (kindO (get A.L s) == 5) = false by simp [h1]] at cS
    have cS := Lib.hid cS
    clear H h h1 cX
    go_enter Tryz.func27, Tryz.ntmps27
    go_wp2_with (go_at_call 49; (with_reducible refine cS.out.mono ?_); rintro r w1 ⟨rfl, rfl⟩)
    go_ret
    exact hR.out
set_option maxRecDepth 100000 in
set_option maxHeartbeats 8000000 in
theorem exp_yes (j i : Nat) (nd nx : Nd) (hnd : A.N[j]? = some nd) (hnx : A.N[i]? = some nx) (hk5 : nd.t.kind = 5) (hk2 : nx.t.kind = 2) (h8 : nd.t.args.length < 8) :
    Calls Tryz.prog 27 #[.pointer (some ⟨A.g, 0, none⟩), .int .i64 j, .int .i64 i] w (PutR w B A (expT (some nd.t) (some nx.t))) := by
  have hgs : get A.L (j : Int) = some nd.t := by rw [get_nat]; exact Ar.L_at hnd
  have hgx : get A.L (i : Int) = some nx.t := by rw [get_nat]; exact Ar.L_at hnx
  have cS : Calls Tryz.prog 49 #[.pointer (some ⟨A.g, 0, none⟩), .int .i64 j, .int .i64 5] w fun r w' => r = .returned (.bool (isB A j 5)) ∧ w = w' := is_any A B j 5 w H
  have cX : Calls Tryz.prog 49 #[.pointer (some ⟨A.g, 0, none⟩), .int .i64 i, .int .i64 2] w fun r w' => r = .returned (.bool (isB A i 2)) ∧ w = w' := is_any A B i 2 w H
  rw [isB_eq (by decide)] at cS cX
  rw [show (kindO (get A.L (j : Int)) == 5) = true by rw [hgs]; simp [kindO, hk5]] at cS
  rw [show (kindO (get A.L (i : Int)) == 2) = true by rw [hgx]; simp [kindO, hk2]] at cX
  have hokS := H.good.ok nd.t (List.mem_of_getElem? (Ar.L_at hnd))
  have hokX := H.good.ok nx.t (List.mem_of_getElem? (Ar.L_at hnx))
  have hexok := expT_ok (so := some nd.t) (xo := some nx.t) (fun t ht => by obtain rfl := Option.some.inj ht; exact hokS) (fun t ht => by obtain rfl := Option.some.inj ht; exact hokX)
  have hex : expT (some nd.t) (some nx.t) = mkO 5 0 0 nd.t.s ((ins nx.t nd.t.args).map some) := by
    show (if nd.t.kind = 5 ∧ nx.t.kind = 2 ∧ nd.t.args.length < 8 then _ else none) = _
    rw [if_pos ⟨hk5, hk2, h8⟩]
  obtain ⟨Ai, ci, ev, hI, _⟩ := H.ids nd (List.mem_of_getElem? hnd)
  have hargs := H.args nd (List.mem_of_getElem? hnd)
  have hxl : nd.xs.length = nd.t.args.length := by have := congrArg List.length hargs; simpa using this
  have hlist := exp_list hargs (Ar.L_at hnx)
  -- the nonces, by number
  have hallk : ∀ u ∈ nd.t.args, u.kind = 2 ∧ u.ok := by
    obtain ⟨⟨k, a, b, s, args⟩, v, ys⟩ := nd
    have hk5 : k = 5 := hk5
    subst hk5
    rw [ok_mk] at hokS
    exact fun u hu => ⟨(hokS.2.1.2.1 rfl).1 u hu, hokS.2.2 u hu⟩
  have hsrtT : nd.t.args.Pairwise nle := by
    obtain ⟨⟨k, a, b, s, args⟩, v, ys⟩ := nd
    have hk5 : k = 5 := hk5
    subst hk5
    rw [ok_mk] at hokS
    exact (hokS.2.1.2.1 rfl).2
  have hslen : nd.t.s.length ≤ 4000000000 := by
    obtain ⟨⟨k, a, b, s, args⟩, v, ys⟩ := nd
    have hk5 : k = 5 := hk5
    subst hk5
    rw [ok_mk] at hokS
    have := hokS.1
    unfold okHd at this
    simp only [Tm.s]
    omega
  have hnon : ∀ (z : Nat) (u : Tm), A.L[z]? = some u → u.kind = 2 → u.ok → ∃ n0, A.N[z]? = some n0 ∧ n0.t = tmO A.L[z]? ∧ n0.t.a ≤ 2147483647 ∧ n0.t.b ≤ 2147483647 ∧ n0.v.oneCell' = true := by
    intro z u hz hk hok
    obtain ⟨n0, h0, h1⟩ := Ar.N_at hz
    obtain ⟨Ak, ck, ek, _, _⟩ := H.ids n0 (List.mem_of_getElem? h0)
    refine ⟨n0, h0, by rw [hz, h1]; rfl, ?_, ?_, by rw [ek]; rfl⟩
    all_goals
      rw [h1]
      obtain ⟨k, a, b, s, args⟩ := u
      have hk : k = 2 := hk
      subst hk
      rw [ok_mk] at hok
      have := hok.1
      unfold okHd at this
      simp only [Tm.a, Tm.b]
      omega
  have hzs : ∀ z ∈ nd.xs ++ [i], ∃ n0, A.N[z]? = some n0 ∧ n0.t = tmO A.L[z]? ∧ n0.t.a ≤ 2147483647 ∧ n0.t.b ≤ 2147483647 ∧ n0.v.oneCell' = true := by
    intro z hz
    rcases List.mem_append.1 hz with hz | hz
    · have : A.L[z]? ∈ nd.xs.map (fun i => A.L[i]?) := List.mem_map.2 ⟨z, hz, rfl⟩
      rw [hargs] at this
      obtain ⟨u, hu, e⟩ := List.mem_map.1 this
      exact hnon z u e.symm (hallk u hu).1 (hallk u hu).2
    · obtain rfl := List.mem_singleton.1 hz
      exact hnon z nx.t (Ar.L_at hnx) hk2 hokX
  have hsI : srtI (fun z => tmO A.L[z]?) nd.xs := by
    rw [srtI_map]
    have h1 : nd.xs.map (fun z => tmO A.L[z]?) = nd.t.args := by
      have := congrArg (List.map tmO) hargs
      rw [List.map_map, List.map_map] at this
      simpa [Function.comp_def, tmO] using this
    rw [h1]
    exact hsrtT
  have hone := insAllI_one (x := i) hsI
  obtain ⟨An, cn, As, cs, e1, e2, c0, c1, c2, hr1, hr2⟩ := H.open_
  obtain ⟨b, off, cn', e1', hb, hr, hjl⟩ := H.node hnd
  rw [e1] at e1'
  injection e1' with e3 e4 e5
  subst e3
  obtain ⟨_, _, _, f3, f4⟩ := Nd.flds hr
  rw [ev, hxl] at f4
  have hlt := H.lt
  have i1 : (0 : Int) ≤ (j : Int) := by omega
  have i2 : (j : Int) < (A.N.length : Int) := by omega
  have cC := Lib.hid (cloneI_any nd.xs Ai nd.t.args.length ci w hxl (by omega) (by rw [← hxl]; exact hI))
  have hxs9 : (nd.xs ++ [i]).length = nd.t.args.length + 1 := by rw [List.length_append, hxl]; rfl
  rw [hex] at hexok ⊢
  rw [← hlist] at hexok ⊢
  obtain ⟨i0, hi, hz0, hz1, hz2⟩ := info_parts append_id
  have hmf : ∀ (fn : Fn) (first cap : Array Value) (w : World), (Instr.makeFunc fn first cap).run Tryz.prog w = .ok (.func fn first cap) w := fun _ _ _ _ => rfl
  generalize hT : (fun z : Nat => tmO A.L[z]?) = T at *
  have hzs : ∀ z ∈ nd.xs ++ [i], ∃ n0, A.N[z]? = some n0 ∧ n0.t = T z ∧ n0.t.a ≤ 2147483647 ∧ n0.t.b ≤ 2147483647 ∧ n0.v.oneCell' = true := by
    intro z hz
    obtain ⟨n0, h1, h2, h3⟩ := hzs z hz
    exact ⟨n0, h1, by rw [h2, ← hT], h3⟩
  have hput := fun (W : World) (q c : Nat) (hW : Below w.heap.size w W) (hD : Dat W q (insI T i nd.xs)) => put_any A B 5 0 0 nd.t.s ((insI T i nd.xs).map Int.ofNat) (some ⟨q, 0, none⟩) (nd.t.args.length + 1) c W (H.keep hW) (Nat.le_trans hB hW.size) hN hslen (by omega) (by have := hD.ints; rwa [insI_len, hxl] at this) hexok
  have hputH := Lib.hid hput
  have hsort := fun (W : World) (q c : Nat) (hq : w.heap.size ≤ q) (hW : Below w.heap.size w W) (hD : Dat W q (nd.xs ++ [i])) => sortFunc_small ⟨q, 0, none⟩ (nd.t.args.length + 1) c (.func (.func 51) #[.pointer (some ⟨A.g, 0, none⟩)] #[]) W (fun w' => Below w.heap.size w w' ∧ Dat w' q (insAllI T [] (nd.xs ++ [i]))) (by omega) (insSort_any A B w H T q (nd.t.args.length + 1) c (nd.xs ++ [i]) hxs9 (by omega) hq hzs W hW hD)
  rw [hone] at hsort
  have hsortH := Lib.hid hsort
  have hxl2 := Lib.hid hxl
  have hxs10 := Lib.hid hxs9
  have hlist2 := Lib.hid hlist
  have cS := Lib.hid cS
  have cX := Lib.hid cX
  have c0h := Lib.hid c0
  have f3h := Lib.hid f3
  clear e4 e5 hjl hr1 hr2 e1 e2 c1 c2 hr ev hI hargs hlist hsI hone hzs hnon hallk hsrtT hokS hokX hexok hslen hgs hgx hk5 hk2 hnd hnx hxl hex hsort hput hxs9 hT
  generalize A.N.length = n at *
  generalize nd.t.args.length = na at *
  generalize nd.t.s = gs at *
  go_enter Tryz.func27, Tryz.ntmps27
  go_upto_region 4 with (first
    | (go_at_call 49; (with_reducible refine cS.out.mono ?_); rintro r w1 ⟨rfl, rfl⟩)
    | (go_at_call 49; (with_reducible refine cX.out.mono ?_); rintro r w1 ⟨rfl, rfl⟩)
    | (go_at_call 44; refine cC.out.mono ?_; rintro r w1 ⟨v1, rfl, hO1, hb1⟩
       have hO2 := Lib.hid (hO1.keep (below_new w1 (.cells #[.int .i64 i] 33)))
       have hB2 := Lib.hid (hb1.trans ((below_new w1 (.cells #[.int .i64 i] 33)).mono hb1.size))
       have hrow := Lib.hid (rangeAt_list (heap_new w1 (.cells [Value.int .i64 i].toArray 33)))
       clear hO1 hb1)
    | (at_builtin; refine wpList_append_one rfl _ _ 28 rfl 33 i0 (.int .i64 0) 1 8 Tryz.underlying28 hi hz0 hz1 hz2 rfl (by decide) w hB2.out v1 (nd.xs.map idv) rfl hO2.out w1.heap.size 1 [.int .i64 i] rfl hrow.out rfl (by simp; rfl) (by rw [List.length_map, hxl2.out]; unfold maxLen; omega) (by rw [List.length_map, hxl2.out]; omega) ?_; intro v2 w2 hO3 hB3 hg3))
  obtain ⟨q, c, e, hq, hD⟩ := Dat.of_own (zs := nd.xs ++ [i]) (by rw [List.map_append]; exact hO3) (by simp)
  rw [hxs10.out] at e
  subst e
  have cS1 := Lib.hid (hsortH.out w2 q c hq hB3 hD)
  clear hO3 hD hg3 hrow hO2 hB2 c0 f3 f4 cC cS cX
  go_wp2_with (first
    | (go_at_call 50; refine cS1.out.mono ?_; rintro r w3 ⟨rfl, hB5, hD5⟩
       have c0 := (hB5.cell (p := ⟨A.g, 0, none⟩) hlt).trans c0h.out
       have f3 := (hB5.cell (p := ⟨b, off + j * 5 + 3, none⟩) hb).trans f3h.out
       have cP := Lib.hid (hputH.out w3 q c hB5 hD5)
       have hB5h := Lib.hid hB5
       clear hB5 hD5)
    | (go_at_call 48; refine cP.out.mono ?_; rintro r w4 h4; obtain ⟨A', x', rfl, hG, hM⟩ := PutR.of_below hB5h.out h4))
  go_ret
  exact ⟨A', x', rfl, hG, hM⟩
theorem exp_any (s x : Int) :
    Calls Tryz.prog 27 #[.pointer (some ⟨A.g, 0, none⟩), .int .i64 s, .int .i64 x] w (PutR w B A (expT (get A.L s) (get A.L x))) := by
  by_cases h : kindO (get A.L s) = 5 ∧ kindO (get A.L x) = 2 ∧ (∀ t, get A.L s = some t → t.args.length < 8)
  · obtain ⟨h1, h2, h3⟩ := h
    obtain ⟨t, ht, hk⟩ := kindO_some (by decide) h1
    obtain ⟨u, hu, hku⟩ := kindO_some (by decide) h2
    have h8 := h3 t ht
    rw [ht, hu]
    obtain ⟨j, rfl, hj⟩ := get_some ht
    obtain ⟨i, rfl, hi⟩ := get_some hu
    obtain ⟨nd, hnd, rfl⟩ := Ar.N_at hj
    obtain ⟨nx, hnx, rfl⟩ := Ar.N_at hi
    exact exp_yes A B w H hB hN j i nd nx hnd hnx hk hku h8
  · exact exp_no A B w H s x h
end
theorem St.exp {w : World} {g : Nat} {W : World} {L : List Tm} (h : St w g W L) (hL : L.length < 100) (s x : Int) : Calls Tryz.prog 27 #[.pointer (some ⟨g, 0, none⟩), .int .i64 s, .int .i64 x] W (SR w g W L (expT (get L s) (get L x))) :=
  h.put hL fun A h1 h2 H hB hN => by subst h1; subst h2; exact exp_any A _ W H hB hN s x
end Go.Proofs.YtphnakdgpilcmaaGreatDoor
