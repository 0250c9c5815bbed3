/- Tallies of the reference: put, Tallies. (printed by wip/gen_csx.py) -/
import Derived.Test.YtkgkpoiacbjdfaaZb0
import Derived.Maps.AppendAt
import Derived.StillTailTactics
import Derived.BigQuiet
namespace Go.Proofs.Ytkgkpoiacbjdfaa
open Go Go.RowKit Go.Maps

section
variable {P : Program} {ops : Array Oper} {Q : Exit → Act → World → Prop} {a : Act} {w : World} {rest : List Oper} {o : Oper}
theorem wpList_append_atC (hgd : o.guard = none) (s x : Operand) (t : TypeId)
    (ho : o.op = .call { callee := .builtin .append, args := #[s, x], argTypes := #[t, t] })
    (e : TypeId) (i : TypeInfo) (z : Value) (size bytes : Nat) (ht : P.underlying t = some (.slice e)) (hi : P.info? e = some i) (hz : i.zero = some z)
    (hsize : i.size = size) (hby : i.bytes = bytes) (hzs : z.cells.size = size) (hsz : 0 < size)
    (base : Nat) (hB : base ≤ w.heap.size) (v : Value) (zs : List (List Value)) (hs : a.eval s = v) (hown : OwnR w base size e v zs)
    (g c : Nat) (row : List Value) (hx : a.eval x = .slice (some ⟨g, 0, none⟩) 1 c) (hrow : w.rangeAt g 0 row) (hl : row.length = size) (h1 : ∀ u ∈ row, u.oneCell' = true)
    (h63 : zs.length + 1 ≤ maxLen) (hbytes : (zs.length + 1) * bytes ≤ 140737488355328)
    (h : ∀ v' w', OwnR w' base size e v' (zs ++ [row]) → w.grownBy w' v.ownBlock → (v'.ownBlock = v.ownBlock ∨ v'.ownBlock = some w.heap.size) → wpList P ops Q rest (a.put o.dst v') w') : wpList P ops Q (o :: rest) a w := by
  refine wpList_append_own_at w hgd s x t ho base e i z size bytes ht hi hz hsize hby hzs hsz v zs.length zs.flatten hs hown.1 ⟨g, 0, none⟩ 1 c row hx (by rw [hl, Nat.one_mul])
    (fun j u hu => by rw [Addr.add_mid]; exact hrow j u hu) h1 h63 hbytes hB ?_
  intro v' w' hown' hg _ hat
  refine h v' w' ⟨by simpa [List.length_append, List.flatten_append] using hown', fun z hz => ?_⟩ hg hat
  rcases List.mem_append.1 hz with hz | hz
  · exact hown.2 z hz
  · simp only [List.mem_singleton] at hz
    subst hz
    exact hl
end
theorem lt_of_cell2 {W : World} {p : Addr} {v : Value} (h : W.cell? p = some v) : p.block < W.heap.size := by
  unfold World.cell? at h
  cases hq : W.heap[p.block]? with
  | none => rw [hq] at h; simp at h
  | some o => exact (Array.getElem?_eq_some_iff.1 hq).1
theorem drewN_below2 {W : World} (q : Nat) : Below W.heap.size W (W.drewN q) := ⟨rfl, rfl, rfl, Nat.le_refl _, fun _ _ => rfl⟩
theorem grown_set2 (w : World) (a : Addr) (v : Value) : w.grownBy (w.setCell a v) (some a.block) :=
  ⟨rfl, rfl, rfl, by simp [World.setCell], fun k _ hk => heap_setCell_other w a k v (fun e => hk (by rw [e]))⟩
theorem OwnR.lowC {w : World} {base base' k : Nat} {E : TypeId} {v : Value} {zs : List (List Value)} (h : OwnR w base k E v zs) (hb : base' ≤ base) : OwnR w base' k E v zs := by
  obtain ⟨⟨hl, hh⟩, hz⟩ := h
  refine ⟨⟨hl, ?_⟩, hz⟩
  rcases hh with h0 | ⟨g, cap, cur, hv, hg, r⟩
  · exact .inl h0
  · exact .inr ⟨g, cap, cur, hv, Nat.le_trans hb hg, r⟩
theorem insT_snoc {t x : Tly} : ∀ {l : List Tly}, l.any (tlt t) = true → insT t (l ++ [x]) = insT t l ++ [x]
  | [], h => by simp at h
  | y :: l, h => by
    rw [List.cons_append, insT, insT]
    cases e : tlt t y with
    | true => rw [if_pos rfl, if_pos rfl]; rfl
    | false =>
      rw [if_neg (by decide), if_neg (by decide), insT_snoc (by simpa [e] using h)]
      rfl
theorem insT_new {t x : Tly} (hx : tlt t x = true) : ∀ {l : List Tly}, l.any (tlt t) = false → insT t (l ++ [x]) = l ++ [t, x]
  | [], _ => by rw [List.nil_append, insT, if_pos hx]; rfl
  | y :: l, h => by
    simp only [List.any_cons, Bool.or_eq_false_iff] at h
    rw [List.cons_append, insT, h.1, if_neg (by decide), insT_new hx h.2]
    rfl
theorem insT_none {t : Tly} : ∀ {l : List Tly}, l.any (tlt t) = false → insT t l = l ++ [t]
  | [], _ => rfl
  | y :: l, h => by
    simp only [List.any_cons, Bool.or_eq_false_iff] at h
    rw [insT, h.1, if_neg (by decide), insT_none h.2]
    rfl
/-- What the second loop has put out. -/
def outT (t : Tly) (l : List Tly) : List Tly := if l.any (tlt t) = true then insT t l else l
theorem outT_snoc (t : Tly) (l : List Tly) (x : Tly) : outT t (l ++ [x]) = if l.any (tlt t) = true then outT t l ++ [x] else if tlt t x = true then (outT t l ++ [t]) ++ [x] else outT t l ++ [x] := by
  unfold outT
  rw [List.any_append]
  cases h : l.any (tlt t) with
  | true => simp [insT_snoc h]
  | false =>
    cases hx : tlt t x with
    | true => simp [hx, insT_new hx h]
    | false => simp [hx]
theorem insT_len (t : Tly) : ∀ l : List Tly, (insT t l).length = l.length + 1
  | [] => rfl
  | x :: l => by
    rw [insT]
    split
    · rfl
    · rw [List.length_cons, insT_len t l, List.length_cons]
theorem outT_len (t : Tly) (l : List Tly) : (outT t l).length ≤ l.length + 1 := by
  unfold outT
  split
  · rw [insT_len]; exact Nat.le_refl _
  · omega
theorem restT_snoc (nm : ByteArray) (l : List Tly) (x : Tly) : restT nm (l ++ [x]) = if x.1 = nm then restT nm l else restT nm l ++ [x] := by
  unfold restT
  rw [List.filter_append]
  by_cases e : x.1 = nm
  · rw [if_pos e, List.filter_cons_of_neg (by simp [e])]; simp
  · rw [if_neg e, List.filter_cons_of_pos (by simp [e])]; rfl
theorem restT_len (nm : ByteArray) (l : List Tly) : (restT nm l).length ≤ l.length := List.length_filter_le _ _
theorem sumT_bd {nm : ByteArray} {l : List Tly} (h : ∀ p ∈ l, 0 ≤ p.2 ∧ p.2 ≤ 1000) : 0 ≤ sumT nm l ∧ sumT nm l ≤ 1000 * l.length := by
  induction l with
  | nil => simp [sumT]
  | cons x l ih =>
    have h1 := h x (by simp)
    have h2 := ih fun p hp => h p (by simp [hp])
    rw [sumT, List.length_cons]
    split <;> omega
theorem tly_flat_one (x : Tly) : (encT x).toArray.all (·.oneCell') = true := by
  obtain ⟨a, n⟩ := x
  kernel_rfl
set_option maxRecDepth 100000 in
set_option maxHeartbeats 8000000 in
theorem rput_any (ts : List Tly) (A : Option Addr) (n c : Nat) (nm : ByteArray) (w : World) (hn : n ≤ 1000) (H : Rws w 2 A n (ts.map encT)) (hbd : ∀ p ∈ ts, 0 ≤ p.2 ∧ p.2 ≤ 1000) :
    Calls Try.prog 57 #[.slice A n c, .string nm] w fun r w' => ∃ v, r = .returned v ∧ OwnR w' w.heap.size 2 71 v ((putT ts nm).map encT) ∧ Below w.heap.size w w' := by
  obtain ⟨i0, hi, hz0, hz1, hz2⟩ := info_parts tly_info
  have hml : ts.length = n := by have := H.1; simpa using this
  have hHh := Lib.hid H
  have hbh := Lib.hid hbd
  have hmlh := Lib.hid hml
  have hg0 := heap_new w (.cells #[.string ⟨#[]⟩, .int .i64 0] 71)
  clear H hbd hml
  go_enter Try.func57, Try.ntmps57
  go_upto_region 2 with (first
    | (refine wpList_alloc_row 71 rfl rfl #[.string ⟨#[]⟩, .int .i64 0] (by kernel_rfl) ?_; try simp only [World.size_alloc])
    | (refine wpList_store_at 71 _ _ rfl rfl w.heap.size #[.string nm, .int .i64 1] rfl rfl 71 #[.string ⟨#[]⟩, .int .i64 0] hg0 (by kernel_rfl) rfl rfl ?_
       rw [setRow_new]))
  have hT0 := Lib.hid (heap_new w (.cells #[.string nm, .int .i64 1] 71))
  have hB0 := Lib.hid (below_new2 w (.cells #[.string nm, .int .i64 1] 71))
  have hz1' : (w.alloc (.cells #[.string nm, .int .i64 1] 71)).heap.size = w.heap.size + 1 := by simp
  have hO0 : Hid (OwnR (w.alloc (.cells #[.string nm, .int .i64 1] 71)) (w.heap.size + 1) 2 71 (.slice none 0 0) ((restT nm (ts.take 0)).map encT)) := Lib.hid (OwnR.nil_ _ _ _ _)
  have hsz0 : Hid (w.heap.size + 1 ≤ (w.alloc (.cells #[.string nm, .int .i64 1] 71)).heap.size) := Lib.hid (by rw [hz1']; exact Nat.le_refl _)
  clear hg0 hz1'
  obtain ⟨p0, hp0⟩ : ∃ p0, w.heap.size = p0 := ⟨_, rfl⟩
  rw [hp0] at hT0 hO0 hsz0 ⊢
  generalize w.alloc (.cells #[.string nm, .int .i64 1] 71) = W1 at *
  replace hp0 := Lib.hid hp0
  go_wp2_with fail
  go_loopw [6, 7] (fun vv iv wr => ∃ (k : Nat) (v : Value), k ≤ n ∧ vv = v ∧ iv = .int .i64 k ∧ Hid (OwnR wr (p0 + 1) 2 71 v ((restT nm (ts.take k)).map encT)) ∧ Hid (wr.heap[p0]? = some (.cells #[.string nm, .int .i64 (1 + sumT nm (ts.take k))] 71 (0, 0))) ∧ Hid (p0 + 1 ≤ wr.heap.size ∧ Below w.heap.size w wr)) (fun _ iv _ => n - (intOf iv).toNat)
  case atStart => exact ⟨0, _, Nat.zero_le _, rfl, rfl, hO0, hT0, Lib.hid ⟨hsz0.out, hB0.out⟩⟩
  case round =>
    clear hO0 hT0 hB0 hsz0
    obtain ⟨k, v, hk, rfl, rfl, hO, hT, hB⟩ := hrel
    obtain ⟨Av, cv, ev, hRv⟩ := hO.out.rws
    rw [List.length_map] at ev hRv
    subst ev
    have hrl := restT_len nm (ts.take k)
    rw [List.length_take] at hrl
    have hsb := sumT_bd (nm := nm) (l := ts.take k) fun p hp => hbh.out p (List.mem_of_mem_take hp)
    have htl : (ts.take k).length ≤ 1000 := by rw [List.length_take]; omega
    have hs0 := hsb.1
    have hs1 : sumT nm (ts.take k) ≤ 1000000 := by omega
    have t0 := cell_of_row wr p0 0 _ _ _ hT.out
    have t1 := cell_of_row wr p0 1 _ _ _ hT.out
    replace t0 : wr.cell? ⟨p0, 0, none⟩ = some (.string nm) := t0
    replace t1 : wr.cell? ⟨p0, 1, none⟩ = some (.int .i64 (1 + sumT nm (ts.take k))) := t1
    by_cases hlt : k < n
    · have hlt' : (k : Int) < (n : Int) := by omega
      obtain ⟨b, off, z, rfl, hb, hz, hzl, hr⟩ := (hHh.out.keep hB.out.2).row hlt
      rw [List.getElem?_map] at hz
      obtain ⟨x, hx, rfl⟩ := Option.map_eq_some_iff.1 hz
      have htk : ts.take (k + 1) = ts.take k ++ [x] := take_succ_of hx
      have hbx := hbh.out x (List.mem_of_getElem? hx)
      have c0 := hr 0 _ rfl
      have c1 := hr 1 _ rfl
      rw [Nat.add_zero] at c0
      by_cases e : x.1 = nm
      · have e1 : (x.1 == nm) = true := beqT_iff.2 e
        have e2 : (x.1.toList == nm.toList) = true := by rw [e]; simp
        have hrn : restT nm (ts.take (k + 1)) = restT nm (ts.take k) := by rw [htk, restT_snoc, if_pos e]
        have hsn : 1 + sumT nm (ts.take (k + 1)) = 1 + sumT nm (ts.take k) + x.2 := by rw [htk, sumT_snoc, if_pos e]; omega
        rw [← hrn] at hO
        have hd1 : Below wr.heap.size wr wr.drew := drewN_below2 1
        have hTd := (hd1.block p0 (Array.getElem?_eq_some_iff.1 hT.out).1).trans hT.out
        have hOd := hO.out.keep hd1
        obtain ⟨W3, hwd⟩ : ∃ W3, wr.drew = W3 := ⟨_, rfl⟩
        rw [hwd] at hd1 hTd hOd
        have hgs := grown_set2 W3 ⟨p0, 1, none⟩ (.int .i64 (1 + sumT nm (ts.take k) + x.2))
        have hT4 : Hid ((W3.setCell ⟨p0, 1, none⟩ (.int .i64 (1 + sumT nm (ts.take k) + x.2))).heap[p0]? = some (.cells #[.string nm, .int .i64 (1 + sumT nm (ts.take (k + 1)))] 71 (0, 0))) := by
          rw [hsn, heap_setCell_same W3 p0 1 _ _ _ hTd]; rfl
        have hO4 := Lib.hid (hOd.keptG hgs fun g hg h => by
          have h1 := hOd.lt g hg
          have h2 : p0 = g := Option.some.inj h
          omega)
        have hB4 := Lib.hid (show p0 + 1 ≤ (W3.setCell ⟨p0, 1, none⟩ (.int .i64 (1 + sumT nm (ts.take k) + x.2))).heap.size ∧ Below w.heap.size w (W3.setCell ⟨p0, 1, none⟩ (.int .i64 (1 + sumT nm (ts.take k) + x.2))) from by
          have h3 := hB.out.2.trans (hd1.mono hB.out.2.size)
          exact ⟨Nat.le_trans (Nat.le_trans hB.out.1 hd1.size) hgs.size, h3.grown hgs h3.size fun q hq => by rw [← Option.some.inj hq, hp0.out]; exact Nat.le_refl _⟩)
        have u1 := (hd1.cell (lt_of_cell2 t1)).trans t1
        have d1 := (hd1.cell (lt_of_cell2 c1)).trans c1
        have hfz : W3.frozen? ⟨p0, 1, none⟩ = false := by simp [World.frozen?, hTd]
        have hr5 : restT nm (ts.take (k + 1)) = restT nm (ts.take k) := hrn
        generalize sumT nm (ts.take k) = sm at *
        clear hO hT hB hRv hrl hsb htl hz hzl hr hx htk hrn hsn hgs hTd hOd e
        go_upto_region 7 with fail
        clear c0 c1 t0 t1
        go_still_tail 8, (by kernel_rfl)
        change wpList _ _ _ _ _ wr.drew
        rw [hwd]
        clear hwd
        go_wp2_with fail
        go_roundw
        case rel => exact ⟨k + 1, .slice Av (restT nm (ts.take (k + 1))).length cv, by omega, by rw [hr5], by go_num, hO4, hT4, hB4⟩
        case measure => simp [intOf]; omega
      · have e1 : (x.1 == nm) = false := by
          cases h : (x.1 == nm) with
          | false => rfl
          | true => exact absurd (beqT_iff.1 h) e
        have e2 : (x.1.toList == nm.toList) = false := by rw [← beq_toListBytes]; exact e1
        have hrn : restT nm (ts.take (k + 1)) = restT nm (ts.take k) ++ [x] := by rw [htk, restT_snoc, if_neg e]
        have hsn : sumT nm (ts.take (k + 1)) = sumT nm (ts.take k) := by rw [htk, sumT_snoc, if_neg e]; omega
        have hrow := Lib.hid (show wr.rangeAt b (off + k * 2) [.string x.1, .int .i64 x.2] from hr)
        have hbn := below_new2 wr (.cells #[.string x.1, .int .i64 x.2] 71)
        obtain ⟨nr, hnr⟩ : ∃ nr, (restT nm (ts.take k)).length = nr := ⟨_, rfl⟩
        have hOn : OwnR (wr.alloc (.cells #[.string x.1, .int .i64 x.2] 71)) (p0 + 1) 2 71 (.slice Av nr cv) ((restT nm (ts.take k)).map encT) := by rw [← hnr]; exact hO.out.keep hbn
        have hTn := (hbn.block p0 (Array.getElem?_eq_some_iff.1 hT.out).1).trans hT.out
        have hBn := hB.out.2.trans (hbn.mono hB.out.2.size)
        have hzn : p0 + 1 ≤ (wr.alloc (.cells #[.string x.1, .int .i64 x.2] 71)).heap.size := Nat.le_trans hB.out.1 hbn.size
        have hup := Lib.hid (show ∀ (v2 : Value) (w7 : World), OwnR w7 (p0 + 1) 2 71 v2 ((restT nm (ts.take k)).map encT ++ [encT x]) → (wr.alloc (.cells #[.string x.1, .int .i64 x.2] 71)).grownBy w7 (Value.slice Av nr cv).ownBlock →
            OwnR w7 (p0 + 1) 2 71 v2 ((restT nm (ts.take (k + 1))).map encT) ∧ w7.heap[p0]? = some (.cells #[.string nm, .int .i64 (1 + sumT nm (ts.take (k + 1)))] 71 (0, 0)) ∧ (p0 + 1 ≤ w7.heap.size ∧ Below w.heap.size w w7) from fun v2 w7 h1 h2 => by
          refine ⟨by rw [hrn, List.map_append]; exact h1, ?_, Nat.le_trans hzn h2.size, hBn.grown h2 hBn.size fun q hq => ?_⟩
          · rw [hsn]
            exact (h2.block p0 (by omega) fun h => by have := hOn.lt p0 h.symm; omega).trans hTn
          · have := hOn.lt q hq
            rw [hp0.out]; omega)
        have hOn := Lib.hid hOn
        have hzn := Lib.hid hzn
        have hrw := Lib.hid (rangeAt_list (heap_new wr (.cells (encT x).toArray 71)))
        rw [hnr] at hrl ⊢
        replace hnr := Lib.hid hnr
        clear hO hT hB hRv hsb htl hz hzl hr hx htk hrn hsn hTn hBn hbn e t0 t1
        go_wp2_with (first
          | (refine wpList_load_at 71 (.tmp 38) rfl rfl b (off + k * 2) rfl [.string x.1, .int .i64 x.2] _ hrow.out Try.underlying71 rfl (by kernel_rfl) ?_)
          | (at_builtin; refine wpList_append_atC rfl _ _ 52 rfl 71 i0 _ 2 24 Try.underlying52 hi hz0 hz1 hz2 rfl (by decide) (p0 + 1) hzn.out _ ((restT nm (ts.take k)).map encT) rfl hOn.out wr.heap.size 1 (encT x) rfl hrw.out rfl (encT_one _) (by rw [List.length_map, hnr.out]; unfold maxLen; omega) (by rw [List.length_map, hnr.out]; omega) ?_
             intro v2 w7 hO2 hg2 _
             obtain ⟨hO7, hT7, hB7⟩ := hup.out v2 w7 hO2 hg2
             replace hO7 := Lib.hid hO7
             replace hT7 := Lib.hid hT7
             replace hB7 := Lib.hid hB7
             clear hO2 hg2))
        go_roundw
        case rel => exact ⟨k + 1, v2, by omega, rfl, by go_num, hO7, hT7, hB7⟩
        case measure => simp [intOf]; omega
    · have hkn : k = n := by omega
      subst hkn
      rw [List.take_of_length_le (by rw [hmlh.out]; exact Nat.le_refl _)] at hO hT hRv hsb hs0 hs1 t1 ⊢
      have hput : putT ts nm = insT (nm, 1 + sumT nm ts) (restT nm ts) := rfl
      have hputh := Lib.hid hput
      obtain ⟨tn, htn⟩ : ∃ tn, 1 + sumT nm ts = tn := ⟨_, rfl⟩
      rw [htn] at hT t1 hputh
      obtain ⟨rs, hrs⟩ : ∃ rs, restT nm ts = rs := ⟨_, rfl⟩
      rw [List.take_of_length_le (by rw [hmlh.out]; exact Nat.le_refl _), hrs] at hrl
      rw [hrs] at hRv hputh ⊢
      obtain ⟨nr, hnr⟩ : ∃ nr, rs.length = nr := ⟨_, rfl⟩
      rw [hnr] at hRv hrl ⊢
      have hBw := Lib.hid hB.out.2
      have hTh := Lib.hid (show wr.heap[p0]? = some (.cells #[.string nm, .int .i64 tn] 71 (0, 0)) from hT.out)
      have hRh := Lib.hid hRv
      have hnrh := Lib.hid hnr
      have hO0 : Hid (OwnR wr wr.heap.size 2 71 (.slice none 0 0) ((outT (nm, tn) (rs.take 0)).map encT)) := Lib.hid (OwnR.nil_ _ _ _ _)
      have hB0 := Lib.hid (Below.refl wr.heap.size wr)
      have htb : tn ≤ 1000001 := by omega
      clear hO hT hB hRv hsb htl hput htn hrs hnr t0 t1 hs0 hs1
      obtain ⟨Wm, hWm⟩ : ∃ Wm, wr = Wm := ⟨_, rfl⟩
      rw [hWm] at hBw hTh hRh hO0 hB0 ⊢
      clear hWm
      go_wp2_with fail
      go_loopw [8, 9, 10] (fun ov dv iv wz => ∃ (i : Nat) (v : Value) (da : Bool), i ≤ nr ∧ ov = v ∧ dv = .bool da ∧ iv = .int .i64 i ∧ Hid ((rs.take i).any (tlt (nm, tn)) = da) ∧ Hid (OwnR wz Wm.heap.size 2 71 v ((outT (nm, tn) (rs.take i)).map encT)) ∧ Hid (Below Wm.heap.size Wm wz)) (fun _ _ iv _ => nr - (intOf iv).toNat)
      case atStart => exact ⟨0, _, false, Nat.zero_le _, rfl, rfl, rfl, Lib.hid rfl, hO0, hB0⟩
      case round =>
        clear hO0 hB0
        obtain ⟨i, v, da, hi2, rfl, rfl, rfl, hda, hO, hB⟩ := hrel
        obtain ⟨Ao, co, eo, _⟩ := hO.out.rws
        rw [List.length_map] at eo
        obtain ⟨no, hno⟩ : ∃ no, (outT (nm, tn) (rs.take i)).length = no := ⟨_, rfl⟩
        have hnl : no ≤ 1001 := by
          rw [← hno]
          have := outT_len (nm, tn) (rs.take i)
          rw [List.length_take] at this
          omega
        rw [hno] at eo
        subst eo
        replace hno := Lib.hid hno
        have hTz := Lib.hid ((hB.out.block p0 (Array.getElem?_eq_some_iff.1 hTh.out).1).trans hTh.out)
        have t0 : wr.cell? ⟨p0, 0, none⟩ = some (.string nm) := cell_of_row wr p0 0 _ _ _ hTz.out
        have t1 : wr.cell? ⟨p0, 1, none⟩ = some (.int .i64 tn) := cell_of_row wr p0 1 _ _ _ hTz.out
        by_cases hlt2 : i < nr
        · have hlt2' : (i : Int) < (nr : Int) := by omega
          obtain ⟨b, off, z, rfl, hb, hz, hzl, hr⟩ := (hRh.out.keep hB.out).row hlt2
          rw [List.getElem?_map] at hz
          obtain ⟨x, hx, rfl⟩ := Option.map_eq_some_iff.1 hz
          have htk : rs.take (i + 1) = rs.take i ++ [x] := take_succ_of hx
          have hos := Lib.hid (outT_snoc (nm, tn) (rs.take i) x)
          have han : (rs.take (i + 1)).any (tlt (nm, tn)) = (da || tlt (nm, tn) x) := by rw [htk, List.any_append, hda.out]; simp
          have c0 := hr 0 _ rfl
          have c1 := hr 1 _ rfl
          rw [Nat.add_zero] at c0
          have htl := Lib.hid (tlt_iff (x := (nm, tn)) (y := x))
          obtain ⟨b', off', z', eA, hbW, hz', _, hrW⟩ := hRh.out.row hlt2
          injection eA with eA
          injection eA with e1 e2 _
          subst e1
          subst e2
          rw [List.getElem?_map, hx] at hz'
          have hz' : encT x = z' := Option.some.inj hz'
          subst hz'
          have hrAt := Lib.hid (fun (W : World) (h : Below Wm.heap.size Wm W) => (show W.rangeAt b (off + i * 2) [.string x.1, .int .i64 x.2] from rangeAt_keep hrW h hbW))
          have hTAt := Lib.hid (fun (W : World) (h : Below Wm.heap.size Wm W) => (show W.rangeAt p0 0 [.string nm, .int .i64 tn] from rangeAt_list ((h.block p0 (Array.getElem?_eq_some_iff.1 hTh.out).1).trans hTh.out)))
          clear hz hzl hr hx hrW hbW
          cases da with
          | true =>
            have hos2 := hos.out
            rw [hda.out, if_pos rfl, ← htk] at hos2
            rw [Bool.true_or] at han
            replace hos2 := Lib.hid hos2
            replace han := Lib.hid han
            clear hos hda htk hTz htl
            go_upto_region 14 with fail
            go_quiet (fail)
            have hBq := Lib.hid (hB.out.trans ((drewN_below2 nq : Below wr.heap.size wr (wr.drewN nq)).mono hB.out.size))
            have hOq := hO.out.keep (drewN_below2 nq : Below wr.heap.size wr (wr.drewN nq))
            clear c0 c1 t0 t1 hO hB
            generalize wr.drewN nq = W5 at *
            have hbn := below_new2 W5 (.cells #[.string x.1, .int .i64 x.2] 71)
            have hOn2 := Lib.hid (hOq.keep hbn)
            have hBn2 := Lib.hid (hBq.out.trans (hbn.mono hBq.out.size))
            have hrw2 := Lib.hid (rangeAt_list (heap_new W5 (.cells (encT x).toArray 71)))
            clear hbn
            have hrt := hrAt.out W5 hBq.out
            clear hOq
            go_wp2_with (first
              | (refine wpList_load_at 71 (.tmp 87) rfl rfl b (off + i * 2) rfl [.string x.1, .int .i64 x.2] _ hrt Try.underlying71 rfl (by kernel_rfl) ?_)
              | (at_builtin; refine wpList_append_one rfl _ _ 52 rfl 71 i0 _ 2 24 Try.underlying52 hi hz0 hz1 hz2 rfl (by decide) Wm hBn2.out _ ((outT (nm, tn) (rs.take i)).map encT) rfl hOn2.out W5.heap.size 1 (encT x) rfl hrw2.out rfl (encT_one _) (by rw [List.length_map, hno.out]; unfold maxLen; omega) (by rw [List.length_map, hno.out]; omega) ?_
                 intro v4 w8 hO2 hB2 hg2
                 replace hO2 := Lib.hid hO2
                 replace hB2 := Lib.hid hB2
                 clear hg2))
            go_roundw
            case rel => exact ⟨i + 1, v4, true, by omega, rfl, rfl, by go_num, han, Lib.hid (by rw [hos2.out, List.map_append]; exact hO2.out), hB2⟩
            case measure => simp [intOf]; omega
          | false =>
            by_cases g1 : x.2 < tn
            · have g1' : tn > x.2 := g1
              have hq : tlt (nm, tn) x = true := htl.out.2 (.inl g1)
              have hos2 := hos.out
              rw [hda.out, if_neg (by decide), hq, if_pos rfl, ← htk] at hos2
              rw [hq, Bool.false_or] at han
              replace hos2 := Lib.hid hos2
              replace han := Lib.hid han
              clear hos hda htk hTz htl hq
              go_upto_region 14 with fail
              go_quiet (fail)
              have hBq := Lib.hid (hB.out.trans ((drewN_below2 nq : Below wr.heap.size wr (wr.drewN nq)).mono hB.out.size))
              have hOq := hO.out.keep (drewN_below2 nq : Below wr.heap.size wr (wr.drewN nq))
              clear c0 c1 t0 t1 hO hB g1 g1'
              generalize wr.drewN nq = W5 at *
              have hbn := below_new2 W5 (.cells #[.string nm, .int .i64 tn] 71)
              have hOn1 := Lib.hid (hOq.keep hbn)
              have hBn1 := Lib.hid (hBq.out.trans (hbn.mono hBq.out.size))
              have hrw1 := Lib.hid (rangeAt_list (heap_new W5 (.cells (encT (nm, tn)).toArray 71)))
              clear hbn
              have hrt := hTAt.out W5 hBq.out
              clear hOq
              go_upto_region 16 with (first
                | (refine wpList_load_at 71 (.tmp 5) rfl rfl p0 0 rfl [.string nm, .int .i64 tn] _ hrt Try.underlying71 rfl (by kernel_rfl) ?_)
                | (at_builtin; refine wpList_append_one rfl _ _ 52 rfl 71 i0 _ 2 24 Try.underlying52 hi hz0 hz1 hz2 rfl (by decide) Wm hBn1.out _ ((outT (nm, tn) (rs.take i)).map encT) rfl hOn1.out W5.heap.size 1 (encT (nm, tn)) rfl hrw1.out rfl (encT_one _) (by rw [List.length_map, hno.out]; unfold maxLen; omega) (by rw [List.length_map, hno.out]; omega) ?_
                   intro v3 w6 hO2 hB2 hg2
                   replace hO2 := Lib.hid hO2
                   replace hB2 := Lib.hid hB2
                   clear hg2))
              clear hOn1 hBn1 hrw1 hrt hBq
              obtain ⟨A3, c3, e3, _⟩ := hO2.out.rws
              rw [List.length_append, List.length_map, hno.out] at e3
              subst e3
              have hOq := hO2.out
              have hBq := hB2
              clear hO2 hB2
              have hbn := below_new2 w6 (.cells #[.string x.1, .int .i64 x.2] 71)
              have hOn2 := Lib.hid (hOq.keep hbn)
              have hBn2 := Lib.hid (hBq.out.trans (hbn.mono hBq.out.size))
              have hrw2 := Lib.hid (rangeAt_list (heap_new w6 (.cells (encT x).toArray 71)))
              clear hbn
              have hrt := hrAt.out w6 hBq.out
              clear hOq
              go_wp2_with (first
                | (refine wpList_load_at 71 (.tmp 87) rfl rfl b (off + i * 2) rfl [.string x.1, .int .i64 x.2] _ hrt Try.underlying71 rfl (by kernel_rfl) ?_)
                | (at_builtin; refine wpList_append_one rfl _ _ 52 rfl 71 i0 _ 2 24 Try.underlying52 hi hz0 hz1 hz2 rfl (by decide) Wm hBn2.out _ ((outT (nm, tn) (rs.take i)).map encT ++ [encT (nm, tn)]) rfl hOn2.out w6.heap.size 1 (encT x) rfl hrw2.out rfl (encT_one _) (by rw [List.length_append, List.length_map, hno.out]; simp only [List.length_cons, List.length_nil]; unfold maxLen; omega) (by rw [List.length_append, List.length_map, hno.out]; simp only [List.length_cons, List.length_nil]; omega) ?_
                   intro v4 w8 hO2 hB2 hg2
                   replace hO2 := Lib.hid hO2
                   replace hB2 := Lib.hid hB2
                   clear hg2))
              go_roundw
              case rel => exact ⟨i + 1, v4, true, by omega, rfl, rfl, by go_num, han, Lib.hid (by rw [hos2.out, List.map_append, List.map_append]; exact hO2.out), hB2⟩
              case measure => simp [intOf]; omega
            · by_cases g2 : tn = x.2
              · have g2' : (tn == x.2) = true := by rw [g2]; simp
                cases g3 : Op.bytesLess nm.toList x.1.toList with
                | true =>
                  have hq : tlt (nm, tn) x = true := htl.out.2 (.inr ⟨g2, g3⟩)
                  have hos2 := hos.out
                  rw [hda.out, if_neg (by decide), hq, if_pos rfl, ← htk] at hos2
                  rw [hq, Bool.false_or] at han
                  replace hos2 := Lib.hid hos2
                  replace han := Lib.hid han
                  clear hos hda htk hTz htl hq
                  go_upto_region 14 with fail
                  go_quiet (fail)
                  have hBq := Lib.hid (hB.out.trans ((drewN_below2 nq : Below wr.heap.size wr (wr.drewN nq)).mono hB.out.size))
                  have hOq := hO.out.keep (drewN_below2 nq : Below wr.heap.size wr (wr.drewN nq))
                  clear c0 c1 t0 t1 hO hB g1 g2 g2' g3
                  generalize wr.drewN nq = W5 at *
                  have hbn := below_new2 W5 (.cells #[.string nm, .int .i64 tn] 71)
                  have hOn1 := Lib.hid (hOq.keep hbn)
                  have hBn1 := Lib.hid (hBq.out.trans (hbn.mono hBq.out.size))
                  have hrw1 := Lib.hid (rangeAt_list (heap_new W5 (.cells (encT (nm, tn)).toArray 71)))
                  clear hbn
                  have hrt := hTAt.out W5 hBq.out
                  clear hOq
                  go_upto_region 16 with (first
                    | (refine wpList_load_at 71 (.tmp 5) rfl rfl p0 0 rfl [.string nm, .int .i64 tn] _ hrt Try.underlying71 rfl (by kernel_rfl) ?_)
                    | (at_builtin; refine wpList_append_one rfl _ _ 52 rfl 71 i0 _ 2 24 Try.underlying52 hi hz0 hz1 hz2 rfl (by decide) Wm hBn1.out _ ((outT (nm, tn) (rs.take i)).map encT) rfl hOn1.out W5.heap.size 1 (encT (nm, tn)) rfl hrw1.out rfl (encT_one _) (by rw [List.length_map, hno.out]; unfold maxLen; omega) (by rw [List.length_map, hno.out]; omega) ?_
                       intro v3 w6 hO2 hB2 hg2
                       replace hO2 := Lib.hid hO2
                       replace hB2 := Lib.hid hB2
                       clear hg2))
                  clear hOn1 hBn1 hrw1 hrt hBq
                  obtain ⟨A3, c3, e3, _⟩ := hO2.out.rws
                  rw [List.length_append, List.length_map, hno.out] at e3
                  subst e3
                  have hOq := hO2.out
                  have hBq := hB2
                  clear hO2 hB2
                  have hbn := below_new2 w6 (.cells #[.string x.1, .int .i64 x.2] 71)
                  have hOn2 := Lib.hid (hOq.keep hbn)
                  have hBn2 := Lib.hid (hBq.out.trans (hbn.mono hBq.out.size))
                  have hrw2 := Lib.hid (rangeAt_list (heap_new w6 (.cells (encT x).toArray 71)))
                  clear hbn
                  have hrt := hrAt.out w6 hBq.out
                  clear hOq
                  go_wp2_with (first
                    | (refine wpList_load_at 71 (.tmp 87) rfl rfl b (off + i * 2) rfl [.string x.1, .int .i64 x.2] _ hrt Try.underlying71 rfl (by kernel_rfl) ?_)
                    | (at_builtin; refine wpList_append_one rfl _ _ 52 rfl 71 i0 _ 2 24 Try.underlying52 hi hz0 hz1 hz2 rfl (by decide) Wm hBn2.out _ ((outT (nm, tn) (rs.take i)).map encT ++ [encT (nm, tn)]) rfl hOn2.out w6.heap.size 1 (encT x) rfl hrw2.out rfl (encT_one _) (by rw [List.length_append, List.length_map, hno.out]; simp only [List.length_cons, List.length_nil]; unfold maxLen; omega) (by rw [List.length_append, List.length_map, hno.out]; simp only [List.length_cons, List.length_nil]; omega) ?_
                       intro v4 w8 hO2 hB2 hg2
                       replace hO2 := Lib.hid hO2
                       replace hB2 := Lib.hid hB2
                       clear hg2))
                  go_roundw
                  case rel => exact ⟨i + 1, v4, true, by omega, rfl, rfl, by go_num, han, Lib.hid (by rw [hos2.out, List.map_append, List.map_append]; exact hO2.out), hB2⟩
                  case measure => simp [intOf]; omega
                | false =>
                  have hq : tlt (nm, tn) x = false := (by cases hq : tlt (nm, tn) x with | false => rfl | true => exact absurd (htl.out.1 hq) (fun h => h.elim g1 fun h => by have h2 := h.2; rw [g3] at h2; cases h2))
                  have hos2 := hos.out
                  rw [hda.out, if_neg (by decide), hq, if_neg (by decide), ← htk] at hos2
                  rw [hq, Bool.false_or] at han
                  replace hos2 := Lib.hid hos2
                  replace han := Lib.hid han
                  clear hos hda htk hTz htl hq
                  go_upto_region 14 with fail
                  go_quiet (fail)
                  have hBq := Lib.hid (hB.out.trans ((drewN_below2 nq : Below wr.heap.size wr (wr.drewN nq)).mono hB.out.size))
                  have hOq := hO.out.keep (drewN_below2 nq : Below wr.heap.size wr (wr.drewN nq))
                  clear c0 c1 t0 t1 hO hB g1 g2 g2' g3
                  generalize wr.drewN nq = W5 at *
                  have hbn := below_new2 W5 (.cells #[.string x.1, .int .i64 x.2] 71)
                  have hOn2 := Lib.hid (hOq.keep hbn)
                  have hBn2 := Lib.hid (hBq.out.trans (hbn.mono hBq.out.size))
                  have hrw2 := Lib.hid (rangeAt_list (heap_new W5 (.cells (encT x).toArray 71)))
                  clear hbn
                  have hrt := hrAt.out W5 hBq.out
                  clear hOq
                  go_wp2_with (first
                    | (refine wpList_load_at 71 (.tmp 87) rfl rfl b (off + i * 2) rfl [.string x.1, .int .i64 x.2] _ hrt Try.underlying71 rfl (by kernel_rfl) ?_)
                    | (at_builtin; refine wpList_append_one rfl _ _ 52 rfl 71 i0 _ 2 24 Try.underlying52 hi hz0 hz1 hz2 rfl (by decide) Wm hBn2.out _ ((outT (nm, tn) (rs.take i)).map encT) rfl hOn2.out W5.heap.size 1 (encT x) rfl hrw2.out rfl (encT_one _) (by rw [List.length_map, hno.out]; unfold maxLen; omega) (by rw [List.length_map, hno.out]; omega) ?_
                       intro v4 w8 hO2 hB2 hg2
                       replace hO2 := Lib.hid hO2
                       replace hB2 := Lib.hid hB2
                       clear hg2))
                  go_roundw
                  case rel => exact ⟨i + 1, v4, false, by omega, rfl, rfl, by go_num, han, Lib.hid (by rw [hos2.out, List.map_append]; exact hO2.out), hB2⟩
                  case measure => simp [intOf]; omega
              · have g2' : (tn == x.2) = false := by rw [beq_eq_false_iff_ne]; exact g2
                have hq : tlt (nm, tn) x = false := (by cases hq : tlt (nm, tn) x with | false => rfl | true => exact absurd (htl.out.1 hq) (fun h => h.elim g1 fun h => g2 h.1))
                have hos2 := hos.out
                rw [hda.out, if_neg (by decide), hq, if_neg (by decide), ← htk] at hos2
                rw [hq, Bool.false_or] at han
                replace hos2 := Lib.hid hos2
                replace han := Lib.hid han
                clear hos hda htk hTz htl hq
                go_upto_region 14 with fail
                go_quiet (fail)
                have hBq := Lib.hid (hB.out.trans ((drewN_below2 nq : Below wr.heap.size wr (wr.drewN nq)).mono hB.out.size))
                have hOq := hO.out.keep (drewN_below2 nq : Below wr.heap.size wr (wr.drewN nq))
                clear c0 c1 t0 t1 hO hB g1 g2 g2'
                generalize wr.drewN nq = W5 at *
                have hbn := below_new2 W5 (.cells #[.string x.1, .int .i64 x.2] 71)
                have hOn2 := Lib.hid (hOq.keep hbn)
                have hBn2 := Lib.hid (hBq.out.trans (hbn.mono hBq.out.size))
                have hrw2 := Lib.hid (rangeAt_list (heap_new W5 (.cells (encT x).toArray 71)))
                clear hbn
                have hrt := hrAt.out W5 hBq.out
                clear hOq
                go_wp2_with (first
                  | (refine wpList_load_at 71 (.tmp 87) rfl rfl b (off + i * 2) rfl [.string x.1, .int .i64 x.2] _ hrt Try.underlying71 rfl (by kernel_rfl) ?_)
                  | (at_builtin; refine wpList_append_one rfl _ _ 52 rfl 71 i0 _ 2 24 Try.underlying52 hi hz0 hz1 hz2 rfl (by decide) Wm hBn2.out _ ((outT (nm, tn) (rs.take i)).map encT) rfl hOn2.out W5.heap.size 1 (encT x) rfl hrw2.out rfl (encT_one _) (by rw [List.length_map, hno.out]; unfold maxLen; omega) (by rw [List.length_map, hno.out]; omega) ?_
                     intro v4 w8 hO2 hB2 hg2
                     replace hO2 := Lib.hid hO2
                     replace hB2 := Lib.hid hB2
                     clear hg2))
                go_roundw
                case rel => exact ⟨i + 1, v4, false, by omega, rfl, rfl, by go_num, han, Lib.hid (by rw [hos2.out, List.map_append]; exact hO2.out), hB2⟩
                case measure => simp [intOf]; omega
        · have hkn : i = nr := by omega
          subst hkn
          rw [List.take_of_length_le (by rw [hnrh.out]; exact Nat.le_refl _)] at hda hO hno
          have hTr := Lib.hid (show wr.rangeAt p0 0 [.string nm, .int .i64 tn] from rangeAt_list hTz.out)
          clear t0 t1 hlt hlt2 hTz
          cases da with
          | true =>
            have hfin := Lib.hid (show OwnR wr w.heap.size 2 71 (.slice Ao no co) ((putT ts nm).map encT) from by
              have h := hO.out
              unfold outT at h
              rw [hda.out, if_pos rfl, ← hputh.out] at h
              exact h.lowC hBw.out.size)
            clear hO
            go_wp2_with fail
            go_ret
            exact ⟨_, rfl, hfin.out, hBw.out.trans (hB.out.mono hBw.out.size)⟩
          | false =>
            have hbn := below_new2 wr (.cells #[.string nm, .int .i64 tn] 71)
            have hOn := Lib.hid (hO.out.keep hbn)
            have hBn := Lib.hid (hB.out.trans (hbn.mono hB.out.size))
            have hrw := Lib.hid (rangeAt_list (heap_new wr (.cells (encT (nm, tn)).toArray 71)))
            have hpe := Lib.hid (show putT ts nm = outT (nm, tn) rs ++ [(nm, tn)] from by
              rw [hputh.out, insT_none hda.out]
              unfold outT
              rw [hda.out, if_neg (by decide)])
            clear hbn hO hB
            go_wp2_with (first
              | (refine wpList_load_at 71 (.tmp 5) rfl rfl p0 0 rfl [.string nm, .int .i64 tn] _ hTr.out Try.underlying71 rfl (by kernel_rfl) ?_)
              | (at_builtin; refine wpList_append_one rfl _ _ 52 rfl 71 i0 _ 2 24 Try.underlying52 hi hz0 hz1 hz2 rfl (by decide) Wm hBn.out _ ((outT (nm, tn) rs).map encT) rfl hOn.out wr.heap.size 1 (encT (nm, tn)) rfl hrw.out rfl (encT_one _) (by rw [List.length_map, hno.out]; unfold maxLen; omega) (by rw [List.length_map, hno.out]; omega) ?_
                 intro v2 w7 hO2 hB2 hg2
                 replace hO2 := Lib.hid hO2
                 replace hB2 := Lib.hid hB2
                 clear hg2))
            go_ret
            refine ⟨_, rfl, ?_, hBw.out.trans (hB2.out.mono hBw.out.size)⟩
            rw [hpe.out, List.map_append]
            exact hO2.out.lowC hBw.out.size
end Go.Proofs.Ytkgkpoiacbjdfaa
