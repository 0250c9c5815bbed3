/- The program's encoder: Encode writes down any term of an arena. -/
import Derived.Test.YtphnakdgpilcmaaGreatDoorHb14
import Derived.Test.YtphnakdgpilcmaaGreatDoorHb13
import Derived.Test.YtphnakdgpilcmaaGreatDoorHb0
import Derived.Test.YtphnakdgpilcmaaGreatDoorHb3
import Derived.Shelf.Strings.BuilderK
namespace Go.Proofs.YtphnakdgpilcmaaGreatDoor
open Go.RowKit Go.Maps Go.Shelf

/-- A builder in block b, of blocks from B on, that holds bytes. -/
def BF (B b : Nat) (l : List UInt8) (w : World) : Prop := Lib.IsBuilderF 98 5 B b (Lib.byteCells l) w
/-- All blocks stay but the builder's. -/
def OK (b : Nat) (w w' : World) : Prop := Lib.OthersKept 5 (some b) w w'
theorem BF.below {B b : Nat} {l : List UInt8} {W W' : World} (h : BF B b l W) (hb : Below W.heap.size W W') : BF B b l W' := by
  have q : ∀ p, Lib.BuilderAtF 98 5 B b p (Lib.byteCells l) W → Lib.BuilderAtF 98 5 B b p (Lib.byteCells l) W' := fun p h => by
    have hlt := h.lt
    obtain ⟨hB, v, hv, hown, hne⟩ := h
    exact ⟨hB, v, (hb.block b hlt).trans hv, hown.kept (row := none) ⟨hb.os, hb.tape, hb.output, hb.size, fun k hk _ => hb.block k hk⟩ (Classical.em _), hne⟩
  exact h.elim (fun x => .inl (q _ x)) (fun x => .inr (q _ x))
theorem BF.blk {B b : Nat} {l : List UInt8} {w : World} (h : BF B b l w) : B ≤ b ∧ ∃ c fz, w.heap[b]? = some (.cells c 98 fz) := by
  rcases h with ⟨h0, v, h1, _⟩ | ⟨h0, v, h1, _⟩ <;> exact ⟨h0, _, _, h1⟩
theorem OK.of_below {b : Nat} {w w' : World} (h : Below w.heap.size w w') : OK b w w' := fun k o hk _ _ => (h.block k (Array.getElem?_eq_some_iff.1 hk).1).trans hk
theorem OK.trans {b : Nat} {x y z : World} (h : OK b x y) (k : OK b y z) : OK b x z := Lib.OthersKept.trans h k
theorem OK.block {b : Nat} {w w' : World} (h : OK b w w') {k : Nat} {c : Array Value} {t : TypeId} {fz : Nat × Nat} (hk : w.heap[k]? = some (.cells c t fz)) (ht : t ≠ 5) (hb : ∃ c fz, w.heap[b]? = some (.cells c 98 fz)) (ht2 : t ≠ 98) : w'.heap[k]? = some (.cells c t fz) :=
  h k _ hk (fun e => by
    injection e with e
    subst e
    obtain ⟨c', fz', hb⟩ := hb
    rw [hk] at hb
    injection hb with hb
    injection hb with _ e _
    exact ht2 e) (fun c' fz' e => by injection e with _ e _; exact ht e)
/-- A slice of numbers stays. -/
theorem OK.ids {b : Nat} {w w' : World} {v : Value} {xs : List Nat} (h : OK b w w') (hs : w.heap.size ≤ w'.heap.size) (hb : ∃ c fz, w.heap[b]? = some (.cells c 98 fz)) (hI : IdsV w v xs) : IdsV w' v xs := by
  obtain ⟨A, c, hv, hr, hi⟩ := hI
  refine ⟨A, c, hv, ⟨hr.1, hr.2.1, fun hn => ?_⟩, fun hn => ?_⟩
  · obtain ⟨b1, off, cur, fr, e, hc⟩ := hi hn
    obtain ⟨b2, off2, e2, hlt, hr2⟩ := hr.2.2 hn
    rw [e] at e2
    injection e2 with e2
    injection e2 with q1 q2 _
    subst q1
    subst q2
    have hk := h.block hc (by decide) hb (by decide)
    refine ⟨b1, off, e, Nat.lt_of_lt_of_le hlt hs, fun j z hz i u hu => ?_⟩
    rw [World.cell?_of_block (hk.trans hc.symm)]
    exact hr2 j z hz i u hu
  · obtain ⟨b1, off, cur, fr, e, hc⟩ := hi hn
    exact ⟨b1, off, cur, fr, e, h.block hc (by decide) hb (by decide)⟩
theorem cWrite {B b : Nat} {l m : List UInt8} {w : World} (h : BF B b l w) (hl : l.length + m.length ≤ 140737488355328) (hB : B ≤ w.heap.size) :
    Calls Tryz.prog 89 #[.pointer (some ⟨b, 0, none⟩), .string (bs m)] w fun r w' => r = .returned (.tuple #[.int .i64 (bs m).size, .nilIface]) ∧ BF B b (l ++ m) w' ∧ Below B w w' ∧ OK b w w' := by
  refine (Any.Builder_WriteString_k bld166 bldX B b (Lib.byteCells l) (bs m) w h (by rw [bs_size]; simpa [Lib.byteCells] using hl) hB).mono ?_
  rintro r w' ⟨rfl, h1, h2, h3⟩
  refine ⟨rfl, ?_, h2, h3⟩
  rw [strCells_bs, ← byteCells_append] at h1
  exact .inr h1
theorem cString {B b : Nat} {l : List UInt8} {w : World} (h : BF B b l w) (hB : B ≤ w.heap.size) :
    Calls Tryz.prog 46 #[.pointer (some ⟨b, 0, none⟩)] w fun r w' => r = .returned (.string (bs l)) ∧ BF B b l w' ∧ Below B w w' ∧ OK b w w' :=
  (Any.Builder_String_any_k bld169 bldX B b l w h hB).mono fun r w' ⟨h1, h2, h3, h4⟩ => ⟨h1, h2, h3, h4⟩
section
variable {w : World} {g : Nat} {W : World} {L : List Tm} (h : St w g W L)
include h
theorem St.view_ids (x : Int) (t : Tm) (hg : get L x = some t) : Calls Tryz.prog 23 #[.pointer (some ⟨g, 0, none⟩), .int .i64 x] W fun r w' => ∃ (Av : Option Addr) (c : Nat) (xs : List Nat), r = .returned (.tuple #[.agg (ndC t.kind t.a t.b t.s (.slice Av t.args.length c)).toArray, .bool true]) ∧ IdsV w' (.slice Av t.args.length c) xs ∧ xs.map (fun i => L[i]?) = t.args.map some ∧ Below W.heap.size W w' := by
  obtain ⟨A, rfl, rfl, H, _⟩ := h
  refine (view_own A _ W H x t hg).mono ?_
  rintro r w' ⟨Av, c, xs, rfl, hO, hx, hb⟩
  exact ⟨Av, c, xs, rfl, IdsV.of_own hO, hx, hb⟩
end
theorem encs_take {l : List Tm} {j : Nat} {u : Tm} (h : l[j]? = some u) : encs (l.take (j + 1)) = encs (l.take j) ++ u.enc := by
  rw [take_succ_of h, encs_append]; simp [encs]
/-- What put leaves: so many bytes more in the builder. -/
def PutE (B b : Nat) (l : List UInt8) (w : World) (r : Ending) (w' : World) : Prop := r = .returned (.tuple #[]) ∧ BF B b l w' ∧ Below B w w' ∧ OK b w w'
set_option maxRecDepth 100000 in
set_option maxHeartbeats 4000000 in
theorem cPut_none {w0 : World} {g : Nat} {W : World} {L : List Tm} (hS : St w0 g W L) {b : Nat} (x : Int) (hx : get L x = none) (l : List UInt8) (w : World) (hb : Below W.heap.size W w) (hF : BF W.heap.size b l w) :
    Calls Tryz.prog 45 #[.pointer (some ⟨b, 0, none⟩), .pointer (some ⟨g, 0, none⟩), .int .i64 x] w (PutE W.heap.size b l w) := by
  have cV := Lib.hid ((hS.keep hb).view_none x hx)
  have hBs := hb.size
  have hFh := Lib.hid hF
  clear hb hS hF
  go_enter Tryz.func45, Tryz.ntmps45
  go_wp2_with (first
    | (go_at_call 23; refine cV.out.mono ?_; rintro r w2 ⟨rfl, hb2⟩
       have hz := heap_new w2 (.cells zNd.toArray 52)
       have hb3 : Below w.heap.size w ((w2.alloc (.cells zNd.toArray 52)).setRow w2.heap.size zNd.toArray) := hb2.trans ((below_setRow_ (below_new w2 _) (Nat.le_refl _) _).mono hb2.size)
       have hz := Lib.hid hz
       have hb3 := Lib.hid hb3)
    | (refine wpList_store_at 52 _ _ rfl rfl w2.heap.size zNd.toArray rfl rfl 52 zNd.toArray hz.out (by kernel_rfl) rfl zNd_one ?_))
  have hb3 : Below w.heap.size w ((w2.alloc (.cells #[.int .i64 0, .int .i64 0, .int .i64 0, .string ⟨#[]⟩, .slice none 0 0] 52)).setRow w2.heap.size zNd.toArray) := hb3.out
  generalize ((w2.alloc (.cells #[.int .i64 0, .int .i64 0, .int .i64 0, .string ⟨#[]⟩, .slice none 0 0] 52)).setRow w2.heap.size zNd.toArray) = w3 at *
  go_end0
  exact ⟨rfl, hFh.out.below hb3, hb3.mono hBs, OK.of_below hb3⟩
set_option maxRecDepth 100000 in
set_option maxHeartbeats 8000000 in
theorem cPut_some {w0 : World} {g : Nat} {W : World} {L : List Tm} (hS : St w0 g W L) {b : Nat} (N : Nat) : ∀ (t : Tm), t.len ≤ N → ∀ (x : Int), get L x = some t → ∀ (l : List UInt8) (w : World), l.length + t.len ≤ 140737488355328 → Below W.heap.size W w → BF W.heap.size b l w →
    Calls Tryz.prog 45 #[.pointer (some ⟨b, 0, none⟩), .pointer (some ⟨g, 0, none⟩), .int .i64 x] w (PutE W.heap.size b (l ++ t.enc) w) := by
  induction N with
  | zero => intro t ht; exact absurd (List.length_eq_zero_iff.1 (Nat.le_zero.1 ht)) enc_ne
  | succ N ih =>
    intro t ht x hx l w hl hb hF
    obtain ⟨k, a, c, s, args⟩ := t
    have hok := hS.good.ok _ (get_mem hx)
    have hokm := ok_mk.1 hok
    have cV := Lib.hid ((hS.keep hb).view_ids x _ hx)
    have cH := Lib.hid (fun A c' W' => cHead_any k a c args.length s hokm.1 A c' W')
    have hlen := len_mk (s := s) (args := args) hokm.1
    have hargs : args.length ≤ 1000 := by have := hokm.1; unfold okHd at this; omega
    have hheadlen : (UInt8.ofNat (240 + k) :: hd k a c s args.length).length + lens args = (Tm.mk k a c s args).len := by
      unfold Tm.len
      rw [enc_mk, List.length_cons, List.length_cons, List.length_append, lens_encs]
      omega
    obtain ⟨h0, hh0⟩ : ∃ h0, h0 = UInt8.ofNat (240 + k) :: hd k a c s args.length := ⟨_, rfl⟩
    rw [← hh0] at hheadlen
    have henc : (Tm.mk k a c s args).enc = h0 ++ encs args := by rw [enc_mk, hh0, List.cons_append]
    have h0pos : 0 < h0.length := by rw [hh0]; simp
    unfold TxR at cH
    rw [← hh0] at cH
    rw [henc]
    have hBs := hb.size
    have hFh := Lib.hid hF
    have hbh := Lib.hid hb
    have ihh := Lib.hid (fun (i : Nat) (u : Tm) (y : Nat) (hu : args[i]? = some u) (hy : L[y]? = some u) l w hl hb hF => ih u (by
      have h1 := lens_mem (List.mem_of_getElem? hu)
      omega) (y : Int) (by rw [get_nat]; exact hy) l w hl hb hF)
    clear ih hx hok hokm hlen hS hb hF henc hh0
    simp only [Tm.kind, Tm.a, Tm.b, Tm.s, Tm.args] at cV
    go_enter Tryz.func45, Tryz.ntmps45
    go_upto_region 1 with (first
      | (go_at_call 23; refine cV.out.mono ?_; rintro r w2 ⟨Av, cv, xs, rfl, hI2, hxs, hb2⟩
         have hz := heap_new w2 (.cells zNd.toArray 52)
         have hrow := hsetRow _ _ _ (ndC k a c s (.slice Av args.length cv)).toArray _ _ hz
         have hb3 := below_setRow_ (below_new w2 (.cells zNd.toArray 52)) (Nat.le_refl _) (ndC k a c s (.slice Av args.length cv)).toArray
         have hI3H := Lib.hid (hI2.keep (F := fun _ => False) (Keeps.of_below hb3) (fun _ _ _ _ h => h))
         have hz := Lib.hid hz
         have hrowH := Lib.hid hrow
         have hb3H := Lib.hid (hb2.trans (hb3.mono hb2.size))
         have hxsh := Lib.hid hxs
         clear hI2 hb2 hrow hb3 hxs)
      | (refine wpList_store_at 52 _ _ rfl rfl w2.heap.size (ndC k a c s (.slice Av args.length cv)).toArray rfl rfl 52 zNd.toArray hz.out (by kernel_rfl) rfl nd_all ?_))
    have hrow : ((w2.alloc (.cells #[.int .i64 0, .int .i64 0, .int .i64 0, .string ⟨#[]⟩, .slice none 0 0] 52)).setRow w2.heap.size (ndC k a c s (.slice Av args.length cv)).toArray).heap[w2.heap.size]? = some (.cells (ndC k a c s (.slice Av args.length cv)).toArray 52 (0, 0)) := hrowH.out
    have hb3 : Below w.heap.size w ((w2.alloc (.cells #[.int .i64 0, .int .i64 0, .int .i64 0, .string ⟨#[]⟩, .slice none 0 0] 52)).setRow w2.heap.size (ndC k a c s (.slice Av args.length cv)).toArray) := hb3H.out
    have hI3 : IdsV ((w2.alloc (.cells #[.int .i64 0, .int .i64 0, .int .i64 0, .string ⟨#[]⟩, .slice none 0 0] 52)).setRow w2.heap.size (ndC k a c s (.slice Av args.length cv)).toArray) (.slice Av args.length cv) xs := hI3H.out
    clear hrowH hb3H hI3H hz
    generalize ((w2.alloc (.cells #[.int .i64 0, .int .i64 0, .int .i64 0, .string ⟨#[]⟩, .slice none 0 0] 52)).setRow w2.heap.size (ndC k a c s (.slice Av args.length cv)).toArray) = w3 at *
    generalize w2.heap.size = p6 at *
    have hF3 := Lib.hid (hFh.out.below hb3)
    have hr3 := Lib.hid (rangeAt_list hrow)
    replace hrow := Lib.hid hrow
    have hB3 := Lib.hid hb3
    replace hI3 := Lib.hid hI3
    have cH3 := Lib.hid (cH.out Av cv w3)
    have hs3 := Lib.hid (show W.heap.size ≤ w3.heap.size from Nat.le_trans hBs hb3.size)
    clear hb3
    go_upto_region 3 with (first
      | (refine wpList_load_at 52 _ rfl rfl p6 0 rfl (ndC k a c s (.slice Av args.length cv)) _ hr3.out Tryz.underlying52 rfl (by kernel_rfl) ?_)
      | (go_at_call 90; refine cH3.out.mono ?_; rintro r w4 ⟨rfl, hb4⟩
         have cW := Lib.hid (cWrite (m := h0) (hF3.out.below hb4) (by omega) (Nat.le_trans hs3.out hb4.size))
         replace hb4 := Lib.hid hb4)
      | (go_at_call 89; refine cW.out.mono ?_; rintro r w5 ⟨rfl, hF5, hb5, hk5⟩
         have hblk := (hF3.out.below hb4.out).blk.2
         have hI5 := Lib.hid (hk5.ids hb5.size hblk (hI3.out.keep (F := fun _ => False) (Keeps.of_below hb4.out) (fun _ _ _ _ h => h)))
         have hrow5 := hk5.block ((hb4.out.block p6 (Array.getElem?_eq_some_iff.1 hrow.out).1).trans hrow.out) (by decide) hblk (by decide)
         have d4 : w5.cell? ⟨p6, 4, none⟩ = some (.slice Av args.length cv) := cell_of_row w5 p6 4 _ _ _ hrow5
         have hB5 := Lib.hid ((hB3.out.mono hBs).trans ((hb4.out.mono hs3.out).trans hb5))
         have hK5 := Lib.hid ((OK.of_below hB3.out).trans ((OK.of_below hb4.out).trans hk5))
         have hF5' := Lib.hid hF5
         clear hF5 hb5 hk5 hblk hrow5 cW))
    clear cH cH3 hF3 hr3 hrow hI3 hs3 hFh hB3
    go_wp2_with fail
    clear d4
    have hF0 : Hid (BF W.heap.size b (l ++ (h0 ++ encs (args.take 0))) w5) := by
      have := hF5'.out
      simpa [encs, Hid] using this
    clear hF5'
    go_loopw [25] (fun iv wr => ∃ j : Nat, j ≤ args.length ∧ iv = .int .i64 j ∧ Hid (BF W.heap.size b (l ++ (h0 ++ encs (args.take j))) wr) ∧ Hid (Below W.heap.size w wr) ∧ Hid (OK b w wr) ∧ Hid (IdsV wr (.slice Av args.length cv) xs)) (fun iv _ => args.length - (intOf iv).toNat)
    case atStart => exact ⟨0, by omega, rfl, hF0, hB5, hK5, hI5⟩
    case round =>
      clear hF0 hB5 hK5 hI5
      obtain ⟨j, hj, rfl, hF, hB, hK, hI⟩ := hrel
      by_cases hlt : j < args.length
      · obtain ⟨A', c', ev, hr, _⟩ := hI.out
        injection ev with e1 e2 e3
        subst e1
        rw [← e2] at hr
        clear e3
        obtain ⟨b1, off, z, rfl, hbl, hz, _, hc⟩ := hr.row hlt
        obtain ⟨y, hy⟩ : ∃ y, xs[j]? = some y := ⟨xs[j]'(by omega), List.getElem?_eq_getElem _⟩
        rw [List.getElem?_map, hy] at hz
        have hz : idv y = z := Option.some.inj hz
        subst hz
        have hc := hc 0 (.int .i64 y) rfl
        rw [Nat.mul_one, Nat.add_zero] at hc
        obtain ⟨u, hu⟩ : ∃ u, args[j]? = some u := ⟨args[j]'hlt, List.getElem?_eq_getElem _⟩
        have hLy : L[y]? = some u := by
          have := congrArg (fun q => q[j]?) hxsh.out
          simp only [List.getElem?_map, hy, hu] at this
          simpa using this
        have hle : (l ++ (h0 ++ encs (args.take j))).length + u.len ≤ 140737488355328 := by
          have e := encs_take hu
          have e2 := congrArg List.length e
          rw [List.length_append, lens_encs, lens_encs] at e2
          have e3 : lens (args.take (j + 1)) ≤ lens args := by
            have : args = args.take (j + 1) ++ args.drop (j + 1) := (List.take_append_drop _ _).symm
            have e4 := congrArg lens this
            have e5 : lens (args.take (j + 1) ++ args.drop (j + 1)) = lens (args.take (j + 1)) + lens (args.drop (j + 1)) := by unfold lens; rw [List.map_append, List.sum_append]
            omega
          rw [List.length_append, List.length_append, lens_encs]
          unfold Tm.len
          omega
        have cR := ihh.out j u y hu hLy (l ++ (h0 ++ encs (args.take j))) wr hle (hbh.out.trans hB.out) hF.out
        have hblk := hF.out.blk.2
        have hnx : l ++ (h0 ++ encs (args.take j)) ++ u.enc = l ++ (h0 ++ encs (args.take (j + 1))) := by rw [encs_take hu]; simp
        rw [hnx] at cR
        unfold PutE at cR
        replace cR := Lib.hid cR
        have hIK := Lib.hid (And.intro hI.out hblk)
        have hji : (j : Int) < (args.length : Int) := by omega
        clear hnx hle hLy hu hr hy hblk hF hI e2
        go_wp2_with (go_at_call 45; refine cR.out.mono ?_; rintro r w6 ⟨rfl, hF6, hB6, hK6⟩)
        go_roundw
        case rel => exact ⟨j + 1, by omega, by go_num, hF6, hB.out.trans hB6, hK.out.trans hK6, hK6.ids hB6.size hIK.out.2 hIK.out.1⟩
        case measure => simp [intOf]; omega
      · have hjn : j = args.length := by omega
        subst hjn
        rw [List.take_length] at hF
        clear hlt hI
        go_wp2_with fail
        go_end0
        exact ⟨rfl, hF.out, hB.out, hK.out⟩
set_option maxHeartbeats 4000000 in
/-- Encode writes a term down. -/
theorem St.encode {w0 : World} {g : Nat} {W : World} {L : List Tm} (hS : St w0 g W L) (x : Int) :
    Calls Tryz.prog 24 #[.pointer (some ⟨g, 0, none⟩), .int .i64 x] W (TxR W (encO (get L x))) := by
  have hB1 := below_new W (.cells #[.pointer none, .slice none 0 0] 98)
  have hF1 : BF W.heap.size W.heap.size [] (W.alloc (.cells #[.pointer none, .slice none 0 0] 98)) :=
    Lib.IsBuilderF.of (.inl ⟨Nat.le_refl _, _, heap_new W _, World.ownsRow_nil _ _ _ _, by simp [Value.ownBlock]⟩)
  have cP : Calls Tryz.prog 45 #[.pointer (some ⟨W.heap.size, 0, none⟩), .pointer (some ⟨g, 0, none⟩), .int .i64 x] (W.alloc (.cells #[.pointer none, .slice none 0 0] 98)) (PutE W.heap.size W.heap.size (encO (get L x)) (W.alloc (.cells #[.pointer none, .slice none 0 0] 98))) := by
    cases hx : get L x with
    | none => exact cPut_none hS x hx [] _ hB1 hF1
    | some t =>
      have h1 : t.enc.length ≤ 131072 := hS.good.size t (get_mem hx)
      exact cPut_some hS t.len t (Nat.le_refl _) x hx [] _ (by unfold Tm.len; simp; omega) hB1 hF1
  unfold PutE at cP
  unfold TxR
  generalize encO (get L x) = res at *
  replace cP := Lib.hid cP
  replace hB1 := Lib.hid hB1
  clear hF1 hS
  go_enter Tryz.func24, Tryz.ntmps24
  go_wp2_with (first
    | (go_at_call 45; refine cP.out.mono ?_; rintro r w2 ⟨rfl, hF2, hB2, hK2⟩
       have hb2 := Lib.hid (hB1.out.trans hB2)
       have cS := Lib.hid (cString hF2 (Nat.le_trans hB1.out.size hB2.size))
       clear hF2 hK2 hB2)
    | (go_at_call 46; refine cS.out.mono ?_; rintro r w3 ⟨rfl, _, hB3, _⟩))
  go_ret
  exact ⟨rfl, hb2.out.trans hB3⟩
end Go.Proofs.YtphnakdgpilcmaaGreatDoor
