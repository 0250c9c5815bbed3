/- The reference's terms as texts: Parse. -/
import Derived.Test.YtphnakdgpilcmaaGreatDoorHb2
import Derived.Test.YtphnakdgpilcmaaGreatDoorHb0
import Derived.Deep.CutBlock
import Derived.Deep.DeepCutAuto
namespace Go.Proofs.YtphnakdgpilcmaaGreatDoor
open Go.RowKit

def rz : Array Value := #[.int .i64 0, .int .i64 0, .int .i64 0, .string ⟨#[]⟩, .slice none 0 0]
theorem rn_built (k : Int) : Tryz.prog.built 91 [(0, .int .i64 k)] = some (rnC k 0 0 [] (.slice none 0 0)).toArray := by kernel_rfl
theorem rn_built0 : Tryz.prog.built 91 [] = some rz := by kernel_rfl
theorem rn_zero : (Tryz.prog.info? 91).bind (·.zero) = some (.agg rz) := by kernel_rfl
theorem rn_info {cs : Array Value} (h : cs.size = 5) : (Tryz.prog.info? 91).map (·.size) = some cs.size := by rw [h]; kernel_rfl
theorem resV3 {P : Program} {fn : Func} {p u z : Tmp} {ty : TypeId} (h : fn.results = #[.cell p ty, .tmp u, .tmp z]) (tmps : Array Value) (w : World) (g : Nat) (t : TypeId) (cs : Array Value) (fr : Nat × Nat) (d : TypeDesc) (v v' : Value)
    (hp : tmps.getD p undef = .pointer (some ⟨g, 0, none⟩)) (hg : w.heap[g]? = some (.cells cs t fr))
    (hu : P.underlying ty = some d) (hd : (match d with | .struct _ | .array _ _ => true | _ => false) = true) (hi : (P.info? ty).map (·.size) = some cs.size) (hv : tmps.getD u undef = v) (hv' : tmps.getD z undef = v') :
    (results fn tmps).run P w = .ok (.tuple #[.agg cs, v, v']) w := by
  have e : (results fn tmps).run P w = ((asAddr (tmps.getD p undef)).run P w).andThen fun a w₁ => ((loadVar ty a).run P w₁).andThen fun v w₂ => .ok (.tuple #[v, tmps.getD u undef, tmps.getD z undef]) w₂ := by
    simp only [results, h]
    simp [Sem.run_bind, Result.andThen]
  rw [e, hp, hv, hv']
  simp [asAddr, run_loadVar_row w g t ty cs fr d hg hu hd hi]
theorem lens_mem : ∀ {l : List Tm} {u : Tm}, u ∈ l → u.len ≤ lens l
  | t :: r, u, h => by
    have e : lens (t :: r) = t.len + lens r := by simp [lens]
    rw [e]
    rcases List.mem_cons.1 h with rfl | h
    · omega
    · have := lens_mem h; omega
/-- The region that appends a term: what all its orders keep. -/
structure Q53 (w : World) (k a b : Int) (s : List UInt8) (v : Value) (ss : List ByteArray) (pc : ByteArray) (g : Nat) (l6 l7 l9 : Bool) (x7 : Value) (W : World) : Prop where
  m7 : l7 = true → l6 = true
  m9 : l9 = true → l7 = true
  f6 : l6 = false → W.heap.size = g
  b6 : l6 = true → l7 = false → W.heap[g]? = some (.cells #[.string pc] 9 (0, 0))
  o0 : l7 = false → OwnS W (w.heap.size + 2) v ss
  o1 : l7 = true → OwnS W (w.heap.size + 2) x7 (ss ++ [pc])
  row : W.heap[w.heap.size + 1]? = some (.cells (rnC k a b s (bif l9 then x7 else v)).toArray 91 (0, 0))
  zr : W.heap[w.heap.size]? = some (.cells rz 91 (0, 0))
  kp : Below w.heap.size w W
  sz : w.heap.size + 2 ≤ W.heap.size
section
variable {w : World} {k a b : Int} {s : List UInt8} {v : Value} {ss : List ByteArray} {pc : ByteArray} {g : Nat} {l6 l7 l9 : Bool} {x7 : Value} {W : World}
theorem Q53.alloc (h : Q53 w k a b s v ss pc g false l7 l9 x7 W) : Q53 w k a b s v ss pc g true l7 l9 x7 (W.alloc (.cells #[.string pc] 9)) := by
  have n7 : l7 = false := by cases l7 with | false => rfl | true => exact absurd (h.m7 rfl) (by decide)
  have hb := below_new W (.cells #[.string pc] 9)
  refine ⟨fun _ => rfl, h.m9, (fun h => by cases h), fun _ _ => ?_, fun l => OwnS.keep (h.o0 l) hb, fun l => OwnS.keep (h.o1 l) hb, heap_past h.row _, heap_past h.zr _, h.kp.trans (hb.mono h.kp.size), Nat.le_trans h.sz hb.size⟩
  rw [← h.f6 rfl]
  exact heap_new W _
theorem Q53.app (h : Q53 w k a b s v ss pc g true false l9 x7 W) {v' : Value} {W' : World} (ho : OwnS W' (w.heap.size + 2) v' (ss ++ [pc])) (hg : W.grownBy W' v.ownBlock) : Q53 w k a b s v ss pc g true true l9 v' W' := by
  have n9 : l9 = false := by cases l9 with | false => rfl | true => exact absurd (h.m9 rfl) (by decide)
  subst n9
  have hlt : ∀ q, v.ownBlock = some q → w.heap.size + 2 ≤ q := fun q hq => ((h.o0 rfl).1.lt q hq).1
  refine ⟨fun _ => rfl, fun _ => rfl, (fun h => by cases h), (fun _ h => by cases h), (fun h => by cases h), fun _ => ho, ?_, ?_, ?_, Nat.le_trans h.sz hg.size⟩
  · exact (hg.block _ (by have := h.sz; omega) (fun e => by have := hlt _ e.symm; omega)).trans h.row
  · exact (hg.block _ (by have := h.sz; omega) (fun e => by have := hlt _ e.symm; omega)).trans h.zr
  · exact h.kp.grown hg h.kp.size (fun q hq => by have := hlt q hq; omega)
theorem Q53.store (h : Q53 w k a b s v ss pc g l6 true false x7 W) : Q53 w k a b s v ss pc g l6 true true x7 (W.setCell ⟨w.heap.size + 1, 4, none⟩ x7) := by
  have n6 := h.m7 rfl
  subst n6
  have hgr := grown_set W ⟨w.heap.size + 1, 4, none⟩ x7
  refine ⟨h.m7, fun _ => rfl, (fun h => by cases h), (fun _ h => by cases h), (fun h => by cases h), fun _ => ?_, ?_, ?_, ?_, Nat.le_trans h.sz hgr.size⟩
  · exact OwnR.keepF (h.o1 rfl) (F := fun b => some (w.heap.size + 1) = some b) (Keeps.of_grown hgr (fun q hq => hq)) (fun q hq hf => by have := ((h.o1 rfl).1.lt q hq).1; have := Option.some.inj hf; omega)
  · rw [heap_setCell_same W (w.heap.size + 1) 4 _ _ _ h.row]; rfl
  · exact (heap_setCell_other W ⟨w.heap.size + 1, 4, none⟩ w.heap.size x7 (by simp)).trans h.zr
  · exact h.kp.setCell (p := ⟨w.heap.size + 1, 4, none⟩) (Nat.le_succ _) x7
end
-- REGION 53
def PPr (q : Nat) (v : Value) (X : ByteArray) (fr : Int) (en : Int) (pc : ByteArray) (g : Nat) (i : Nat) (x : Value) : Prop := match i with
  | 0 => x = .pointer (some ⟨q, 4, none⟩)
  | 1 => x = v
  | 2 => x = .string X
  | 3 => x = .int .i64 fr
  | 4 => x = .int .i64 en
  | 5 => x = .string pc
  | 6 => x = .slice (some ⟨g, 0, none⟩) 1 1
  | 8 => x = .pointer (some ⟨q, 4, none⟩)
  | _ => True
def IPr (F : Value → Value → Value → Value → Value → Value → Value → Value → Value → Value → Array Value) (q : Nat) (v : Value) (X : ByteArray) (fr : Int) (en : Int) (pc : ByteArray) (g : Nat) (Wi : (Nat → Bool) → Value → World → Prop) (L : Nat → Bool) (ac : Act) (W : World) : Prop :=
  ∃ x0 x1 x2 x3 x4 x5 x6 x7 x8 x9, ac = ⟨F x0 x1 x2 x3 x4 x5 x6 x7 x8 x9, []⟩ ∧ (∀ jj, L jj = true → PPr q v X fr en pc g jj ([x0, x1, x2, x3, x4, x5, x6, x7, x8, x9].getD jj undef)) ∧ Wi L x7 W
-- REGION 53
def ParseR (t : Tm) (e : Nat) (w : World) (r : Ending) (w' : World) : Prop := ∃ (A : Option Addr) (c : Nat), r = .returned (.tuple #[.agg (rnC t.kind t.a t.b t.s (.slice A t.args.length c)).toArray, .int .i64 e, .bool true]) ∧ Strs w' A t.args.length (t.args.map fun u => bs u.enc) ∧ Below w.heap.size w w' ∧ OwnS w' w.heap.size (.slice A t.args.length c) (t.args.map fun u => bs u.enc)
set_option maxRecDepth 100000 in
set_option maxHeartbeats 4000000 in
theorem rParse_any (N : Nat) : ∀ (t : Tm), t.len ≤ N → t.ok → ∀ (l : List UInt8) (p : Nat) (r : List UInt8) (w : World), l.length ≤ 4000000000 → l.drop p = t.enc ++ r →
    Calls Tryz.prog 86 #[.string (bs l), .int .i64 p] w (ParseR t (p + t.len) w) := by
  induction N with
  | zero =>
    intro t hN
    have h3 : 0 < t.enc.length := List.length_pos_iff.2 enc_ne
    unfold Tm.len at hN
    omega
  | succ N ih =>
    intro t hN hok l p r w hl hdr
    obtain ⟨k, a, b, s, args⟩ := t
    have hlen := congrArg List.length hdr
    rw [List.length_drop, List.length_append] at hlen
    have hokm := ok_mk.1 hok
    have hkk := okHd_kind hokm.1
    have hz := bs_size l
    rw [enc_mk] at hdr
    have h0 : l[p]? = some (UInt8.ofNat (240 + k)) := by
      have : (l.drop p)[0]? = some (UInt8.ofNat (240 + k)) := by rw [hdr]; rfl
      rwa [List.getElem?_drop, Nat.add_zero] at this
    have hd1 : l.drop (p + 1) = hd k a b s args.length ++ (encs args ++ r) := by
      have := congrArg (List.drop 1) hdr
      rw [List.drop_drop] at this
      rw [this]
      simp
    have hi0 := bs_at h0
    have hpl : p < (bs l).size := by rw [hz]; exact (List.getElem?_eq_some_iff.1 h0).1
    have hxl : (bs l).size ≤ 4000000000 := by omega
    have q0 : (0 : Int) ≤ (p : Int) := by omega
    have q1 : (p : Int) < ((bs l).size : Int) := by omega
    have hm : (240 + (k : Int)) % 256 = 240 + (k : Int) := by omega
    have hm2 : 240 + (k : Int) - 240 = (k : Int) := by omega
    have n1 := heap_new w (.cells rz 91)
    have n2 := heap_new (w.alloc (.cells rz 91)) (.cells rz 91)
    rw [show (w.alloc (.cells rz 91)).heap.size = w.heap.size + 1 by simp] at n2
    have n1' := heap_past n1 (.cells rz 91)
    have hB2 := ((below_new w (.cells rz 91)).trans (Below.mono (below_new _ (.cells rz 91)) (by simp)))
    have n3 := Lib.hid (hsetRow _ _ _ (rnC k 0 0 [] (.slice none 0 0)).toArray _ _ n2)
    have n4 := Lib.hid ((hsetRow_off (g := w.heap.size + 1) (k := w.heap.size) (by omega) (rnC k 0 0 [] (.slice none 0 0)).toArray).trans n1')
    have hB3 := Lib.hid (below_setRow hB2 (Nat.le_succ _) (g := w.heap.size + 1) (rnC k 0 0 [] (.slice none 0 0)).toArray)
    have n2 := Lib.hid n2
    clear n1 n1' hB2
    go_enter Tryz.func86, Tryz.ntmps86
    go_upto_region 6 with (first
      | (refine wpList_alloc_row 91 rfl rfl rz rn_zero ?_; try simp only [World.size_alloc])
      | (refine wpList_build_as 91 _ rfl rfl (rnC k 0 0 [] (.slice none 0 0)).toArray (rn_built k) ?_)
      | (refine wpList_store_at 91 _ _ rfl rfl (w.heap.size + 1) (rnC k 0 0 [] (.slice none 0 0)).toArray rfl rfl 91 rz n2.out (rn_info rfl) rfl rn_all ?_))
    have n3 : (((w.alloc (.cells rz 91)).alloc (.cells rz 91)).setRow (w.heap.size + 1) (rnC k 0 0 [] (.slice none 0 0)).toArray).heap[w.heap.size + 1]? = some (.cells (rnC k 0 0 [] (.slice none 0 0)).toArray 91 (0, 0)) := n3.out
    have n4 : (((w.alloc (.cells rz 91)).alloc (.cells rz 91)).setRow (w.heap.size + 1) (rnC k 0 0 [] (.slice none 0 0)).toArray).heap[w.heap.size]? = some (.cells rz 91 (0, 0)) := n4.out
    have hB3 : Below w.heap.size w (((w.alloc (.cells rz 91)).alloc (.cells rz 91)).setRow (w.heap.size + 1) (rnC k 0 0 [] (.slice none 0 0)).toArray) := hB3.out
    generalize ((w.alloc (.cells rz 91)).alloc (.cells rz 91)).setRow (w.heap.size + 1) (rnC k 0 0 [] (.slice none 0 0)).toArray = w3 at *
    have hk0 : w3.cell? ⟨w.heap.size + 1, 0, none⟩ = some (.int .i64 k) := cell_of_row w3 _ 0 _ _ _ n3
    have n3 := Lib.hid n3
    have n4 := Lib.hid n4
    have hB3 := Lib.hid hB3
    have hpos := h0
    clear n2 h0 hi0 hdr
    go_upto_block 0 with fail
    go_cut [8, 9, 10] (fun e i m wx => e = .int .i64 ((p + 1 + (hd k a b s args.length).length : Nat) : Int) ∧ i = .bool true ∧ m = .int .i64 args.length ∧ wx.heap[w.heap.size + 1]? = some (.cells (rnC k a b s (.slice none 0 0)).toArray 91 (0, 0)) ∧ wx.heap[w.heap.size]? = some (.cells rz 91 (0, 0)) ∧ Below w.heap.size w wx)
    case first =>
      have hk1 := hokm.1
      unfold okHd at hk1
      clear hokm hok hN hlen ih hkk hm hm2
      rcases hk1 with hk1 | hk1 | hk1 | hk1 | hk1 | hk1 | hk1 | hk1 | hk1 | hk1
      · obtain ⟨rfl, rfl, rfl, hm0, hsl⟩ := hk1
        have c1 := fun W => rText4 l (p + 1) s (encs args ++ r) W hl (by rw [hd1]; simp [hd])
        rw [show ((p + 1 : Nat) : Int) = (p : Int) + 1 by omega, show ((p + 1 + 4 + s.length : Nat) : Int) = (p : Int) + 1 + 4 + s.length by omega] at c1
        have c1 := Lib.hid c1
        go_wp2_with (first
          | (go_at_call 107; (with_reducible refine (c1.out _).mono ?_); rintro r v1 ⟨rfl, hb⟩
             have r7 := (hb.block (w.heap.size + 1) (Array.getElem?_eq_some_iff.1 n3.out).1).trans n3.out
             have r4 := (hb.block w.heap.size (Array.getElem?_eq_some_iff.1 n4.out).1).trans n4.out
             have hbb := hB3.out.trans (hb.mono hB3.out.size)
             have hcl := cell_of_row v1 (w.heap.size + 1) 3 _ _ _ r7
             have hfz := frozen_of_row v1 (w.heap.size + 1) 3 _ _ r7
             have R1 : Hid ((v1.setCell ⟨w.heap.size + 1, 3, none⟩ (.string (bs s))).heap[w.heap.size + 1]? = some (.cells (rnC 1 0 0 s (.slice none 0 0)).toArray 91 (0, 0))) := heap_setCell_same v1 (w.heap.size + 1) 3 _ _ (.string (bs s)) r7
             have Z1 := Lib.hid ((heap_setCell_other v1 ⟨w.heap.size + 1, 3, none⟩ w.heap.size (.string (bs s)) (by simp)).trans r4)
             have B1 := Lib.hid (hbb.setCell (p := ⟨w.heap.size + 1, 3, none⟩) (Nat.le_succ _) (.string (bs s)))
             clear hb hbb r7 r4))
        go_meet
        exact ⟨by simp [hd, u32_len] <;> omega, rfl, by rw [hm0]; rfl, R1.out, Z1.out, B1.out⟩
      · obtain ⟨rfl, hal, hbl, rfl, hm0⟩ := hk1
        have c1 := fun W => rNumber4 l (p + 1) a (u32 b ++ (encs args ++ r)) W hl (by rw [hd1]; simp [hd]) (by omega)
        rw [show ((p + 1 : Nat) : Int) = (p : Int) + 1 by omega] at c1
        have c1 := Lib.hid c1
        have hd2 : l.drop (p + 1 + 4) = u32 b ++ (encs args ++ r) := by
          have := congrArg (List.drop 4) hd1
          rw [List.drop_drop] at this
          rw [this]
          simp [hd, List.drop_append, u32_len]
        have c2 := fun W => rNumber4 l (p + 1 + 4) b (encs args ++ r) W hl (by exact hd2) (by omega)
        rw [show ((p + 1 + 4 : Nat) : Int) = (p : Int) + 1 + 4 by omega] at c2
        have c2 := Lib.hid c2
        go_wp2_with (first
          | (go_at_call 108; (with_reducible refine (c1.out _).mono ?_); rintro r v1 ⟨rfl, hb⟩
             have r7 := (hb.block (w.heap.size + 1) (Array.getElem?_eq_some_iff.1 n3.out).1).trans n3.out
             have r4 := (hb.block w.heap.size (Array.getElem?_eq_some_iff.1 n4.out).1).trans n4.out
             have hbb := hB3.out.trans (hb.mono hB3.out.size)
             have hcl := cell_of_row v1 (w.heap.size + 1) 1 _ _ _ r7
             have hfz := frozen_of_row v1 (w.heap.size + 1) 1 _ _ r7
             have R1 : Hid ((v1.setCell ⟨w.heap.size + 1, 1, none⟩ (.int .i64 a)).heap[w.heap.size + 1]? = some (.cells (rnC 2 a 0 [] (.slice none 0 0)).toArray 91 (0, 0))) := heap_setCell_same v1 (w.heap.size + 1) 1 _ _ (.int .i64 a) r7
             have Z1 := Lib.hid ((heap_setCell_other v1 ⟨w.heap.size + 1, 1, none⟩ w.heap.size (.int .i64 a) (by simp)).trans r4)
             have B1 := Lib.hid (hbb.setCell (p := ⟨w.heap.size + 1, 1, none⟩) (Nat.le_succ _) (.int .i64 a))
             clear hb hbb r7 r4)
          | (go_at_call 108; (with_reducible refine (c2.out _).mono ?_); rintro r v2 ⟨rfl, hb⟩
             have r7 := (hb.block (w.heap.size + 1) (Array.getElem?_eq_some_iff.1 R1.out).1).trans R1.out
             have r4 := (hb.block w.heap.size (Array.getElem?_eq_some_iff.1 Z1.out).1).trans Z1.out
             have hbb := B1.out.trans (hb.mono B1.out.size)
             have hcl := cell_of_row v2 (w.heap.size + 1) 2 _ _ _ r7
             have hfz := frozen_of_row v2 (w.heap.size + 1) 2 _ _ r7
             have R2 : Hid ((v2.setCell ⟨w.heap.size + 1, 2, none⟩ (.int .i64 b)).heap[w.heap.size + 1]? = some (.cells (rnC 2 a b [] (.slice none 0 0)).toArray 91 (0, 0))) := heap_setCell_same v2 (w.heap.size + 1) 2 _ _ (.int .i64 b) r7
             have Z2 := Lib.hid ((heap_setCell_other v2 ⟨w.heap.size + 1, 2, none⟩ w.heap.size (.int .i64 b) (by simp)).trans r4)
             have B2 := Lib.hid (hbb.setCell (p := ⟨w.heap.size + 1, 2, none⟩) (Nat.le_succ _) (.int .i64 b))
             clear hb hbb r7 r4))
        go_meet
        exact ⟨by simp [hd, u32_len] <;> omega, rfl, by rw [hm0]; rfl, R2.out, Z2.out, B2.out⟩
      · obtain ⟨rfl, hal, rfl, rfl, hm0⟩ := hk1
        have c1 := fun W => rNumber4 l (p + 1) a (encs args ++ r) W hl (by rw [hd1]; simp [hd]) (by omega)
        rw [show ((p + 1 : Nat) : Int) = (p : Int) + 1 by omega] at c1
        have c1 := Lib.hid c1
        go_wp2_with (first
          | (go_at_call 108; (with_reducible refine (c1.out _).mono ?_); rintro r v1 ⟨rfl, hb⟩
             have r7 := (hb.block (w.heap.size + 1) (Array.getElem?_eq_some_iff.1 n3.out).1).trans n3.out
             have r4 := (hb.block w.heap.size (Array.getElem?_eq_some_iff.1 n4.out).1).trans n4.out
             have hbb := hB3.out.trans (hb.mono hB3.out.size)
             have hcl := cell_of_row v1 (w.heap.size + 1) 1 _ _ _ r7
             have hfz := frozen_of_row v1 (w.heap.size + 1) 1 _ _ r7
             have R1 : Hid ((v1.setCell ⟨w.heap.size + 1, 1, none⟩ (.int .i64 a)).heap[w.heap.size + 1]? = some (.cells (rnC 3 a 0 [] (.slice none 0 0)).toArray 91 (0, 0))) := heap_setCell_same v1 (w.heap.size + 1) 1 _ _ (.int .i64 a) r7
             have Z1 := Lib.hid ((heap_setCell_other v1 ⟨w.heap.size + 1, 1, none⟩ w.heap.size (.int .i64 a) (by simp)).trans r4)
             have B1 := Lib.hid (hbb.setCell (p := ⟨w.heap.size + 1, 1, none⟩) (Nat.le_succ _) (.int .i64 a))
             clear hb hbb r7 r4))
        go_meet
        exact ⟨by simp [hd, u32_len] <;> omega, rfl, by rw [hm0]; rfl, R1.out, Z1.out, B1.out⟩
      · obtain ⟨rfl, rfl, rfl, rfl, hm0⟩ := hk1
        go_wp2_with fail
        go_meet
        exact ⟨by simp [hd], rfl, by rw [hm0]; rfl, n3.out, n4.out, hB3.out⟩
      · obtain ⟨rfl, rfl, rfl, hs1, hs2, hm0⟩ := hk1
        have c1 := fun W => rText4 l (p + 1) s (u32 args.length ++ (encs args ++ r)) W hl (by rw [hd1]; simp [hd])
        rw [show ((p + 1 : Nat) : Int) = (p : Int) + 1 by omega, show ((p + 1 + 4 + s.length : Nat) : Int) = (p : Int) + 1 + 4 + s.length by omega] at c1
        have c1 := Lib.hid c1
        have hd2 : l.drop (p + 1 + (4 + s.length)) = u32 args.length ++ (encs args ++ r) := by
          have := congrArg (List.drop (4 + s.length)) hd1
          rw [List.drop_drop] at this
          rw [this, show hd 5 0 0 s args.length = (u32 s.length ++ s) ++ u32 args.length by simp [hd], List.append_assoc, List.drop_left' (by simp [u32_len])]
        have c2 := fun W => rNumber4 l (p + 1 + (4 + s.length)) args.length (encs args ++ r) W hl (by exact hd2) (by omega)
        rw [show ((p + 1 + (4 + s.length) : Nat) : Int) = (p : Int) + 1 + 4 + s.length by omega] at c2
        have c2 := Lib.hid c2
        have hm8 : (args.length : Int) ≤ 8 := by omega
        have dm8 : decide ((args.length : Int) ≤ 8) = true := decide_eq_true hm8
        go_wp2_with (first
          | (go_at_call 107; (with_reducible refine (c1.out _).mono ?_); rintro r v1 ⟨rfl, hb⟩
             have r7 := (hb.block (w.heap.size + 1) (Array.getElem?_eq_some_iff.1 n3.out).1).trans n3.out
             have r4 := (hb.block w.heap.size (Array.getElem?_eq_some_iff.1 n4.out).1).trans n4.out
             have hbb := hB3.out.trans (hb.mono hB3.out.size)
             have hcl := cell_of_row v1 (w.heap.size + 1) 3 _ _ _ r7
             have hfz := frozen_of_row v1 (w.heap.size + 1) 3 _ _ r7
             have R1 : Hid ((v1.setCell ⟨w.heap.size + 1, 3, none⟩ (.string (bs s))).heap[w.heap.size + 1]? = some (.cells (rnC 5 0 0 s (.slice none 0 0)).toArray 91 (0, 0))) := heap_setCell_same v1 (w.heap.size + 1) 3 _ _ (.string (bs s)) r7
             have Z1 := Lib.hid ((heap_setCell_other v1 ⟨w.heap.size + 1, 3, none⟩ w.heap.size (.string (bs s)) (by simp)).trans r4)
             have B1 := Lib.hid (hbb.setCell (p := ⟨w.heap.size + 1, 3, none⟩) (Nat.le_succ _) (.string (bs s)))
             clear hb hbb r7 r4)
          | (go_at_call 108; (with_reducible refine (c2.out _).mono ?_); rintro r v2 ⟨rfl, hb⟩
             have r7 := (hb.block (w.heap.size + 1) (Array.getElem?_eq_some_iff.1 R1.out).1).trans R1.out
             have r4 := (hb.block w.heap.size (Array.getElem?_eq_some_iff.1 Z1.out).1).trans Z1.out
             have hbb := B1.out.trans (hb.mono B1.out.size)
             have R2 := Lib.hid r7
             have Z2 := Lib.hid r4
             have B2 := Lib.hid hbb
             clear hb hbb r7 r4))
        go_meet
        exact ⟨by simp [hd, u32_len] <;> omega, rfl, rfl, R2.out, Z2.out, B2.out⟩
      · obtain ⟨rfl, rfl, rfl, hs1, hs2, hm0⟩ := hk1
        have c1 := fun W => rText4 l (p + 1) s (encs args ++ r) W hl (by rw [hd1]; simp [hd])
        rw [show ((p + 1 : Nat) : Int) = (p : Int) + 1 by omega, show ((p + 1 + 4 + s.length : Nat) : Int) = (p : Int) + 1 + 4 + s.length by omega] at c1
        have c1 := Lib.hid c1
        go_wp2_with (first
          | (go_at_call 107; (with_reducible refine (c1.out _).mono ?_); rintro r v1 ⟨rfl, hb⟩
             have r7 := (hb.block (w.heap.size + 1) (Array.getElem?_eq_some_iff.1 n3.out).1).trans n3.out
             have r4 := (hb.block w.heap.size (Array.getElem?_eq_some_iff.1 n4.out).1).trans n4.out
             have hbb := hB3.out.trans (hb.mono hB3.out.size)
             have hcl := cell_of_row v1 (w.heap.size + 1) 3 _ _ _ r7
             have hfz := frozen_of_row v1 (w.heap.size + 1) 3 _ _ r7
             have R1 : Hid ((v1.setCell ⟨w.heap.size + 1, 3, none⟩ (.string (bs s))).heap[w.heap.size + 1]? = some (.cells (rnC 6 0 0 s (.slice none 0 0)).toArray 91 (0, 0))) := heap_setCell_same v1 (w.heap.size + 1) 3 _ _ (.string (bs s)) r7
             have Z1 := Lib.hid ((heap_setCell_other v1 ⟨w.heap.size + 1, 3, none⟩ w.heap.size (.string (bs s)) (by simp)).trans r4)
             have B1 := Lib.hid (hbb.setCell (p := ⟨w.heap.size + 1, 3, none⟩) (Nat.le_succ _) (.string (bs s)))
             clear hb hbb r7 r4))
        go_meet
        exact ⟨by simp [hd, u32_len] <;> omega, rfl, by rw [hm0]; rfl, R1.out, Z1.out, B1.out⟩
      · obtain ⟨rfl, rfl, rfl, rfl, hm0⟩ := hk1
        go_wp2_with fail
        go_meet
        exact ⟨by simp [hd], rfl, by rw [hm0]; rfl, n3.out, n4.out, hB3.out⟩
      · obtain ⟨rfl, rfl, hbl, rfl, hm0⟩ := hk1
        have h8 : l[p + 1]? = some (UInt8.ofNat b) := by
          have : (l.drop (p + 1))[0]? = some (UInt8.ofNat b) := by rw [hd1]; rfl
          rwa [List.getElem?_drop, Nat.add_zero] at this
        have hi8 := bs_at h8
        have hlt8 : p + 1 < (bs l).size := by rw [hz]; exact (List.getElem?_eq_some_iff.1 h8).1
        have q8 : (0 : Int) ≤ (p : Int) + 1 := by omega
        have q9 : (p : Int) + 1 < ((bs l).size : Int) := by omega
        have t8 : ((p : Int) + 1).toNat = p + 1 := by omega
        have hmb : (b : Int) % 256 = (b : Int) := by omega
        have hcl := cell_of_row w3 (w.heap.size + 1) 2 _ _ _ n3.out
        have hfz := frozen_of_row w3 (w.heap.size + 1) 2 _ _ n3.out
        have R1 : Hid ((w3.setCell ⟨w.heap.size + 1, 2, none⟩ (.int .i64 b)).heap[w.heap.size + 1]? = some (.cells (rnC 8 0 b [] (.slice none 0 0)).toArray 91 (0, 0))) := heap_setCell_same w3 (w.heap.size + 1) 2 _ _ (.int .i64 b) n3.out
        have Z1 := Lib.hid ((heap_setCell_other w3 ⟨w.heap.size + 1, 2, none⟩ w.heap.size (.int .i64 b) (by simp)).trans n4.out)
        have B1 := Lib.hid (hB3.out.setCell (p := ⟨w.heap.size + 1, 2, none⟩) (Nat.le_succ _) (.int .i64 b))
        clear h8 hz
        generalize bs l = X at *
        go_wp2_with fail
        go_meet
        exact ⟨by simp [hd] <;> omega, rfl, by rw [hm0]; rfl, R1.out, Z1.out, B1.out⟩
      · obtain ⟨rfl, rfl, hbl, rfl, hm0⟩ := hk1
        have c1 := fun W => rNumber4 l (p + 1) b (encs args ++ r) W hl (by rw [hd1]; simp [hd]) (by omega)
        rw [show ((p + 1 : Nat) : Int) = (p : Int) + 1 by omega] at c1
        have c1 := Lib.hid c1
        go_wp2_with (first
          | (go_at_call 108; (with_reducible refine (c1.out _).mono ?_); rintro r v1 ⟨rfl, hb⟩
             have r7 := (hb.block (w.heap.size + 1) (Array.getElem?_eq_some_iff.1 n3.out).1).trans n3.out
             have r4 := (hb.block w.heap.size (Array.getElem?_eq_some_iff.1 n4.out).1).trans n4.out
             have hbb := hB3.out.trans (hb.mono hB3.out.size)
             have hcl := cell_of_row v1 (w.heap.size + 1) 2 _ _ _ r7
             have hfz := frozen_of_row v1 (w.heap.size + 1) 2 _ _ r7
             have R1 : Hid ((v1.setCell ⟨w.heap.size + 1, 2, none⟩ (.int .i64 b)).heap[w.heap.size + 1]? = some (.cells (rnC 9 0 b [] (.slice none 0 0)).toArray 91 (0, 0))) := heap_setCell_same v1 (w.heap.size + 1) 2 _ _ (.int .i64 b) r7
             have Z1 := Lib.hid ((heap_setCell_other v1 ⟨w.heap.size + 1, 2, none⟩ w.heap.size (.int .i64 b) (by simp)).trans r4)
             have B1 := Lib.hid (hbb.setCell (p := ⟨w.heap.size + 1, 2, none⟩) (Nat.le_succ _) (.int .i64 b))
             clear hb hbb r7 r4))
        go_meet
        exact ⟨by simp [hd, u32_len] <;> omega, rfl, by rw [hm0]; rfl, R1.out, Z1.out, B1.out⟩
      · obtain ⟨rfl, rfl, rfl, rfl, hm0⟩ := hk1
        have c1 := fun W => rNumber4 l (p + 1) args.length (encs args ++ r) W hl (by rw [hd1]; simp [hd]) (by omega)
        rw [show ((p + 1 : Nat) : Int) = (p : Int) + 1 by omega] at c1
        have c1 := Lib.hid c1
        have hm8 : (args.length : Int) ≤ 32 := by omega
        have dm8 : decide ((args.length : Int) ≤ 32) = true := decide_eq_true hm8
        go_wp2_with (first
          | (go_at_call 108; (with_reducible refine (c1.out _).mono ?_); rintro r v1 ⟨rfl, hb⟩
             have r7 := (hb.block (w.heap.size + 1) (Array.getElem?_eq_some_iff.1 n3.out).1).trans n3.out
             have r4 := (hb.block w.heap.size (Array.getElem?_eq_some_iff.1 n4.out).1).trans n4.out
             have hbb := hB3.out.trans (hb.mono hB3.out.size)
             have R1 := Lib.hid r7
             have Z1 := Lib.hid r4
             have B1 := Lib.hid hbb
             clear hb hbb r7 r4))
        go_meet
        exact ⟨by simp [hd, u32_len] <;> omega, rfl, rfl, R1.out, Z1.out, B1.out⟩
    case rest =>
      obtain ⟨rfl, rfl, rfl, r7, r4, hBc⟩ := hcut
      have hlen5 : (Tm.mk k a b s args).len = 1 + (hd k a b s args.length).length + lens args := by
        unfold Tm.len
        rw [enc_mk, List.length_cons, List.length_append, lens_encs]
        omega
      have hP1 : l.drop (p + 1 + (hd k a b s args.length).length) = encs args ++ r := by
        have := congrArg (List.drop (hd k a b s args.length).length) hd1
        rw [List.drop_drop, List.drop_left] at this
        exact this
      have hend : p + 1 + (hd k a b s args.length).length + lens args ≤ l.length := by
        have h1 : l.length - p = (Tm.mk k a b s args).len + r.length := hlen
        have h2 := (List.getElem?_eq_some_iff.1 hpos).1
        omega
      have hsz : ∀ u ∈ args, u.len ≤ lens args := fun u hu => lens_mem hu
      have hihs : ∀ u ∈ args, ∀ (p : Nat) (r : List UInt8) (w : World), l.drop p = u.enc ++ r → Calls Tryz.prog 86 #[.string (bs l), .int .i64 p] w (ParseR u (p + u.len) w) := fun u hu p r w h => ih u (by have := hsz u hu; omega) (hokm.2.2 u hu) l p r w hl h
      have hfin : p + (Tm.mk k a b s args).len = p + 1 + (hd k a b s args.length).length + lens args := by omega
      have hpB : p < p + 1 + (hd k a b s args.length).length := by omega
      generalize p + 1 + (hd k a b s args.length).length = P at *
      have hnl : args.length ≤ 1000000 := by have := hokm.1; unfold okHd at this; omega
      generalize hn : args.length = n at *
      have hnh := Lib.hid hn
      have hih := Lib.hid hihs
      have hP1 := Lib.hid hP1
      have hokh := Lib.hid hok
      have hfinh := Lib.hid hfin
      have hszh := Lib.hid hsz
      have r7h := Lib.hid r7
      have r4h := Lib.hid r4
      have hBch := Lib.hid hBc
      have hwc2 : w.heap.size + 2 ≤ wc.heap.size := by have := (Array.getElem?_eq_some_iff.1 r7).1; omega
      have hOn := Lib.hid (OwnR.nil_ wc (w.heap.size + 2) 1 9)
      clear hok hokm hd1 hlen hlen5 ih hihs hN hfin hsz hn r7 r4 hBc hk0 n3 n4 hB3 hkk hm hm2 hpl hpos
      go_wp2_with fail
      go_loopw [8, 9, 11] (fun e i jv wr => ∃ (j : Nat) (v : Value), j ≤ n ∧ jv = .int .i64 j ∧ e = .int .i64 ((P + lens (args.take j) : Nat) : Int) ∧ i = .bool true ∧ Hid (OwnS wr (w.heap.size + 2) v ((args.take j).map fun u => bs u.enc)) ∧ Hid (wr.heap[w.heap.size + 1]? = some (.cells (rnC k a b s v).toArray 91 (0, 0))) ∧ Hid (wr.heap[w.heap.size]? = some (.cells rz 91 (0, 0))) ∧ Hid (Below w.heap.size w wr) ∧ w.heap.size + 2 ≤ wr.heap.size) (fun _ _ jv _ => n - (intOf jv).toNat)
      case atStart => exact ⟨0, .slice none 0 0, by omega, rfl, by simp [lens], rfl, hOn, r7h, r4h, hBch, hwc2⟩
      case round =>
        clear hOn r7h r4h hBch hwc2
        obtain ⟨j, v, hj, rfl, rfl, rfl, hO, r7, r4, hBr, hsz2⟩ := hrel
        by_cases hlt : j < n
        · obtain ⟨u, hu⟩ : ∃ u, args[j]? = some u := ⟨args[j]'(by have := hnh.out; omega), List.getElem?_eq_getElem (by have := hnh.out; omega)⟩
          have hmem := List.mem_of_getElem? hu
          have htk := take_succ_of hu
          have hsplit : l.drop (P + lens (args.take j)) = u.enc ++ (encs (args.drop (j + 1)) ++ r) := by
            have h1 := congrArg (List.drop (lens (args.take j))) hP1.out
            rw [List.drop_drop] at h1
            rw [h1]
            have e1 : encs args = encs (args.take j) ++ (u.enc ++ encs (args.drop (j + 1))) := by
              have h2 : args = args.take j ++ u :: args.drop (j + 1) := by
                have h3 := List.drop_eq_getElem_cons (List.getElem?_eq_some_iff.1 hu).1
                rw [(List.getElem?_eq_some_iff.1 hu).2] at h3
                rw [← h3, List.take_append_drop]
              conv => lhs; rw [h2]
              rw [encs_append]
              rfl
            rw [e1, List.append_assoc, List.drop_left' (lens_encs _), List.append_assoc]
          have cP := hih.out u hmem _ _ wr hsplit
          have hnext : lens (args.take (j + 1)) = lens (args.take j) + u.len := by rw [htk]; simp [lens]
          have hle : P + lens (args.take j) + u.len ≤ l.length := by
            have h1 := congrArg List.length hsplit
            rw [List.length_drop, List.length_append] at h1
            have h2 : u.enc.length = u.len := rfl
            have h3 : 0 < u.enc.length := List.length_pos_iff.2 enc_ne
            omega
          have hpc : (bs l).extract (P + lens (args.take j)) (P + lens (args.take j) + u.len) = bs u.enc := by
            rw [bs_extract, List.drop_take, hsplit, Nat.add_sub_cancel_left]
            show bs ((u.enc ++ _).take u.enc.length) = _
            rw [List.take_left]
          have hnextH := Lib.hid hnext
          have htkh := Lib.hid htk
          generalize hE : P + lens (args.take j) = E at *
          have hEh := Lib.hid hE
          unfold ParseR at cP
          have cPh := Lib.hid cP
          have q8 : E ≤ (bs l).size := by rw [hz]; omega
          have q9 : E + u.len ≤ (bs l).size := by rw [hz]; omega
          have q10 : (bs l).size ≤ 4000000000 := hxl
          have hpch := Lib.hid hpc
          clear hsplit hmem hnext htk hE hpc hle hz
          go_upto_region 50 with (first
            | (go_at_call 86; refine cPh.out.mono ?_; rintro r w4 ⟨Au, cu, rfl, -, hb, -⟩
               have z1 := Lib.hid (heap_new w4 (.cells rz 91))
               have hb5 := Lib.hid (hb.trans (Below.mono (below_setRow (below_new w4 (.cells rz 91)) (Nat.le_refl _) (rnC u.kind u.a u.b u.s (.slice Au u.args.length cu)).toArray) hb.size))
               clear hb)
            | (refine wpList_alloc_row 91 rfl rfl rz rn_zero ?_; try simp only [World.size_alloc])
            | (refine wpList_store_at 91 _ _ rfl rfl w4.heap.size (rnC u.kind u.a u.b u.s (.slice Au u.args.length cu)).toArray rfl rfl 91 rz z1.out (rn_info rfl) rfl rn_all ?_))
          have hb5 : Below wr.heap.size wr ((w4.alloc (.cells rz 91)).setRow w4.heap.size (rnC u.kind u.a u.b u.s (.slice Au u.args.length cu)).toArray) := hb5.out
          generalize (w4.alloc (.cells rz 91)).setRow w4.heap.size (rnC u.kind u.a u.b u.s (.slice Au u.args.length cu)).toArray = w5 at hb5 ⊢
          have r7' := Lib.hid ((hb5.block _ (Array.getElem?_eq_some_iff.1 r7.out).1).trans r7.out)
          have r4' := Lib.hid ((hb5.block _ (Array.getElem?_eq_some_iff.1 r4.out).1).trans r4.out)
          have hO' := Lib.hid (OwnS.keep hO.out hb5)
          have hBr' := Lib.hid (hBr.out.trans (hb5.mono hBr.out.size))
          have hsz3 := Nat.le_trans hsz2 hb5.size
          clear z1 hb5 r7 r4 hO hBr hsz2 cPh
          have t8 : ((E : Int) + (u.len : Int)).toNat = E + u.len := by omega
          have t9 : (0 : Int) ≤ (E : Int) := by omega
          have hpx := hpch.out
          have s1 : (0 : Int) ≤ (E : Int) + (u.len : Int) := by omega
          have s2 : (E : Int) + (u.len : Int) ≤ ((bs l).size : Int) := by omega
          have s3 : (E : Int) ≤ (E : Int) + (u.len : Int) := by omega
          obtain ⟨i0, hi, hz0, hz1, hz2⟩ := info_parts str_info
          go_upto_region 53 with fail
          refine region_inv (IPr (fun x0 x1 x2 x3 x4 x5 x6 x7 x8 x9 => #[.string (bs l), .int .i64 p, undef, undef, .pointer (some ⟨w.heap.size, 0, none⟩), .int .i64 0, .bool false, .pointer (some ⟨w.heap.size + 1, 0, none⟩), .int .i64 ((E : Int) + (u.len : Int)), .bool true, .int .i64 n, .int .i64 j, .int .i64 E, .pointer (some ⟨w4.heap.size, 0, none⟩), .int .i64 ((E : Int) + (u.len : Int)), .bool true, u16, u17, u18, u19, u20, u21, u22, u23, u24, u25, u26, u27, u28, u29, u30, .int .i64 k, u32, u33, u34, u35, u36, u37, u38, u39, u40, u41, u42, u43, u44, u45, u46, u47, u48, u49, u50, u51, u52, u53, u54, u55, u56, u57, u58, u59, u60, u61, u62, u63, u64, u65, u66, u67, u68, u69, u70, u71, u72, u73, u74, u75, u76, u77, u78, u79, u80, u81, u82, u83, u84, u85, u86, u87, u88, u89, u90, u91, u92, u93, u94, u95, u96, u97, u98, u99, u100, u101, u102, u103, u104, u105, u106, u107, u108, u109, u110, u111, u112, u113, u114, u115, u116, u117, u118, u119, u120, u121, u122, u123, u124, u125, u126, u127, u128, u129, u130, u131, u132, u133, u134, u135, u136, u137, u138, u139, u140, u141, u142, u143, u144, u145, u146, u147, u148, u149, .int .i64 j, .int .i64 n, .bool true, .bool true, .bool true, .bool true, u156, u157, .int .i64 E, .tuple #[.agg (rnC u.kind u.a u.b u.s (.slice Au u.args.length cu)).toArray, .int .i64 ((E : Int) + (u.len : Int)), .bool true], .string (bs l), .int .i64 E, .tuple #[.agg (rnC u.kind u.a u.b u.s (.slice Au u.args.length cu)).toArray, .int .i64 ((E : Int) + (u.len : Int)), .bool true], .agg (rnC u.kind u.a u.b u.s (.slice Au u.args.length cu)).toArray, .int .i64 ((E : Int) + (u.len : Int)), .bool true, .int .i64 ((E : Int) + (u.len : Int)), .bool true, .bool true, x0, x1, x2, x3, x4, x5, x6, x7, x8, u178, u179, u180, u181, u182, u183, u184, u185, u186, u187, u188]) (w.heap.size + 1) v (bs l) (E : Int) ((E : Int) + (u.len : Int)) (bs u.enc) w5.heap.size (fun L x7 W => Q53 w k a b s v ((args.take j).map fun u => bs u.enc) (bs u.enc) w5.heap.size (L 6) (L 7) (L 9) x7 W ∧ (L 7 = true → L 1 = true))) ?hlt ?hstep ?hdone rfl (by kernel_rfl) ?start
          case start => exact ⟨_, _, _, _, _, _, _, _, _, undef, rfl, inv_start (n := 10) (fun _ => trivial), ⟨⟨fun h => absurd h (inv_not (n := 10) (i := 7) (by decide)), fun h => absurd h (inv_not (n := 10) (i := 9) (by decide)), fun _ => rfl, fun h => absurd h (inv_not (n := 10) (i := 6) (by decide)), fun _ => OwnS.keep hO'.out (show Below w5.heap.size w5 w5.drew from drewN_below 1), fun h => absurd h (inv_not (n := 10) (i := 7) (by decide)), r7'.out, r4'.out, hBr'.out.trans ((show Below w5.heap.size w5 w5.drew from drewN_below 1).mono hBr'.out.size), hsz3⟩, fun h => absurd h (inv_not (n := 10) (i := 7) (by decide))⟩⟩
          case hlt =>
            intro i o ho
            have hi := (Array.getElem?_eq_some_iff.1 ho).1
            match i, hi with
            | 0, _ => obtain rfl := Option.some.inj ho; decide
            | 1, _ => obtain rfl := Option.some.inj ho; decide
            | 2, _ => obtain rfl := Option.some.inj ho; decide
            | 3, _ => obtain rfl := Option.some.inj ho; decide
            | 4, _ => obtain rfl := Option.some.inj ho; decide
            | 5, _ => obtain rfl := Option.some.inj ho; decide
            | 6, _ => obtain rfl := Option.some.inj ho; decide
            | 7, _ => obtain rfl := Option.some.inj ho; decide
            | 8, _ => obtain rfl := Option.some.inj ho; decide
            | 9, _ => obtain rfl := Option.some.inj ho; decide
          case hstep =>
            rintro L ac W i o ⟨x0, x1, x2, x3, x4, x5, x6, x7, x8, x9, rfl, hF, hW⟩ ho hLi hd K hK
            have hF := Lib.hid hF
            have hW := Lib.hid hW
            have hK := Lib.hid hK
            have hi := (Array.getElem?_eq_some_iff.1 ho).1
            match i, hi with
            | 0, _ =>
              obtain rfl := Option.some.inj ho
              clear hd ho hi hLi
              go_simp
              exact hK.out _ _ ⟨_, x1, x2, x3, x4, x5, x6, x7, x8, x9, rfl, inv_step (i := 0) (x' := .pointer (some ⟨(w.heap.size + 1), 4, none⟩)) hF.out rfl (show 0 < 10 by decide), hW.out⟩
            | 1, _ =>
              obtain rfl := Option.some.inj ho
              have l0 : L 0 = true := dep_of hd (n := 0) (by decide)
              obtain rfl := Eq.symm (hF.out 0 l0 : x0 = _)
              have n9 : L 9 = false := by
                cases h : L 9 with
                | false => rfl
                | true => exact absurd (hW.out.2 (hW.out.1.m9 h)) (by rw [hLi]; decide)
              have hrow := hW.out.1.row
              rw [n9] at hrow
              have hcl : W.cell? ⟨w.heap.size + 1, 4, none⟩ = some v := cell_of_row W _ 4 _ _ _ hrow
              clear hrow n9
              clear hd ho hi hLi l0
              go_simp
              exact hK.out _ _ ⟨_, _, x2, x3, x4, x5, x6, x7, x8, x9, rfl, inv_step (i := 1) (x' := v) hF.out rfl (show 1 < 10 by decide), ⟨hW.out.1, fun _ => rfl⟩⟩
            | 2, _ =>
              obtain rfl := Option.some.inj ho
              clear hd ho hi hLi
              go_simp
              exact hK.out _ _ ⟨x0, x1, _, x3, x4, x5, x6, x7, x8, x9, rfl, inv_step (i := 2) (x' := .string (bs l)) hF.out rfl (show 2 < 10 by decide), hW.out⟩
            | 3, _ =>
              obtain rfl := Option.some.inj ho
              clear hd ho hi hLi
              go_simp
              exact hK.out _ _ ⟨x0, x1, x2, _, x4, x5, x6, x7, x8, x9, rfl, inv_step (i := 3) (x' := .int .i64 (E : Int)) hF.out rfl (show 3 < 10 by decide), hW.out⟩
            | 4, _ =>
              obtain rfl := Option.some.inj ho
              clear hd ho hi hLi
              go_simp
              exact hK.out _ _ ⟨x0, x1, x2, x3, _, x5, x6, x7, x8, x9, rfl, inv_step (i := 4) (x' := .int .i64 ((E : Int) + (u.len : Int))) hF.out rfl (show 4 < 10 by decide), hW.out⟩
            | 5, _ =>
              obtain rfl := Option.some.inj ho
              have l2 : L 2 = true := dep_of hd (n := 2) (by decide)
              obtain rfl := Eq.symm (hF.out 2 l2 : x2 = _)
              have l3 : L 3 = true := dep_of hd (n := 3) (by decide)
              obtain rfl := Eq.symm (hF.out 3 l3 : x3 = _)
              have l4 : L 4 = true := dep_of hd (n := 4) (by decide)
              obtain rfl := Eq.symm (hF.out 4 l4 : x4 = _)
              clear hd ho hi hLi l2 l3 l4
              go_simp
              exact hK.out _ _ ⟨x0, x1, _, _, _, _, x6, x7, x8, x9, rfl, inv_step (i := 5) (x' := .string (bs u.enc)) hF.out rfl (show 5 < 10 by decide), hW.out⟩
            | 6, _ =>
              obtain rfl := Option.some.inj ho
              have l5 : L 5 = true := dep_of hd (n := 5) (by decide)
              obtain rfl := Eq.symm (hF.out 5 l5 : x5 = _)
              have hQ := hW.out.1
              rw [hLi] at hQ
              have hg := hQ.f6 rfl
              have hQ2 := Lib.hid hQ.alloc
              have hW2 := Lib.hid hW.out.2
              clear hQ
              clear hd ho hi hLi l5
              go_simp
              exact hK.out _ _ ⟨x0, x1, x2, x3, x4, _, _, x7, x8, x9, rfl, inv_step (i := 6) (x' := .slice (some ⟨w5.heap.size, 0, none⟩) 1 1) hF.out rfl (show 6 < 10 by decide), ⟨hQ2.out, hW2.out⟩⟩
            | 7, _ =>
              obtain rfl := Option.some.inj ho
              have l1 : L 1 = true := dep_of hd (n := 1) (by decide)
              obtain rfl := Eq.symm (hF.out 1 l1 : x1 = _)
              have l6 : L 6 = true := dep_of hd (n := 6) (by decide)
              obtain rfl := Eq.symm (hF.out 6 l6 : x6 = _)
              have hQ := hW.out.1
              rw [hLi, l6] at hQ
              have hown := (hQ.o0 rfl).1
              rw [List.length_map] at hown
              have hr6 := rangeAt_list (cs := [Value.string (bs u.enc)]) (hQ.b6 rfl rfl)
              have hQh := Lib.hid hQ
              have hBW : w.heap.size + 2 ≤ W.heap.size := hQ.sz
              have l1h := Lib.hid l1
              clear hQ
              clear hd ho hi hLi
              refine wp_on_ rfl (wp_append_own W _ _ 29 rfl (w.heap.size + 2) 9 i0 _ 1 16 Tryz.underlying29 hi hz0 hz1 hz2 rfl (by decide) v _ _ rfl hown ⟨w5.heap.size, 0, none⟩ 1 1 [.string (bs u.enc)] rfl rfl ?_ (by simp; rfl) (by rw [List.length_map, List.length_take]; unfold maxLen; omega) (by rw [List.length_map, List.length_take]; omega) hBW ?_)
              · intro j' u' hu'; rw [Addr.add_mid]; exact hr6 j' u' hu'
              intro v' W' hown' hg' _
              have hO2 : OwnS W' (w.heap.size + 2) v' (((args.take j).map fun u => bs u.enc) ++ [bs u.enc]) := ⟨by simpa [List.length_append, List.flatten_append, sv] using hown', fun z hz => by obtain ⟨x, _, rfl⟩ := List.mem_map.1 hz; rfl⟩
              refine hK.out _ _ ⟨x0, _, x2, x3, x4, x5, _, _, x8, x9, rfl, inv_step (i := 7) (x' := v') hF.out trivial (show 7 < 10 by decide), ?_⟩
              refine ⟨?_, fun _ => l1h.out⟩
              show Q53 w k a b s v ((args.take j).map fun u => bs u.enc) (bs u.enc) w5.heap.size (L 6) true (L 9) v' W'
              rw [l6]
              exact hQh.out.app hO2 hg'
            | 8, _ =>
              obtain rfl := Option.some.inj ho
              clear hd ho hi hLi
              go_simp
              exact hK.out _ _ ⟨x0, x1, x2, x3, x4, x5, x6, x7, _, x9, rfl, inv_step (i := 8) (x' := .pointer (some ⟨(w.heap.size + 1), 4, none⟩)) hF.out rfl (show 8 < 10 by decide), hW.out⟩
            | 9, _ =>
              obtain rfl := Option.some.inj ho
              have l8 : L 8 = true := dep_of hd (n := 8) (by decide)
              obtain rfl := Eq.symm (hF.out 8 l8 : x8 = _)
              have l7 : L 7 = true := dep_of hd (n := 7) (by decide)
              have hQ := hW.out.1
              rw [hLi, l7] at hQ
              have hrow := hQ.row
              have hcl := cell_of_row W (w.heap.size + 1) 4 _ _ _ hrow
              have hfz := frozen_of_row W (w.heap.size + 1) 4 _ _ hrow
              have hQ2 := Lib.hid hQ.store
              have hW2 := Lib.hid hW.out.2
              have l7h := Lib.hid l7
              obtain ⟨A7, m7, c7, e7⟩ : ∃ A7 m7 c7, x7 = .slice A7 m7 c7 := by
                obtain ⟨A7, c7, e7, _⟩ := (hQ.o1 rfl).strs
                exact ⟨A7, _, c7, e7⟩
              subst e7
              clear hQ hrow
              clear hd ho hi hLi l8 l7
              go_simp
              refine hK.out _ _ ⟨x0, x1, x2, x3, x4, x5, x6, _, _, x9, rfl, inv_pass hF.out (fun _ => trivial), ?_⟩
              refine ⟨?_, hW2.out⟩
              show Q53 w k a b s v ((args.take j).map fun u => bs u.enc) (bs u.enc) w5.heap.size (L 6) (L 7) true _ _
              rw [l7h.out]
              exact hQ2.out
          case hdone =>
            rintro L ac W2 ⟨x0, x1, x2, x3, x4, x5, x6, x7, x8, x9, rfl, hF, hW⟩ hall
            obtain rfl := Eq.symm (hF 0 (hall 0 (show 0 < 10 by decide)) : x0 = _)
            obtain rfl := Eq.symm (hF 1 (hall 1 (show 1 < 10 by decide)) : x1 = _)
            obtain rfl := Eq.symm (hF 2 (hall 2 (show 2 < 10 by decide)) : x2 = _)
            obtain rfl := Eq.symm (hF 3 (hall 3 (show 3 < 10 by decide)) : x3 = _)
            obtain rfl := Eq.symm (hF 4 (hall 4 (show 4 < 10 by decide)) : x4 = _)
            obtain rfl := Eq.symm (hF 5 (hall 5 (show 5 < 10 by decide)) : x5 = _)
            obtain rfl := Eq.symm (hF 6 (hall 6 (show 6 < 10 by decide)) : x6 = _)
            obtain rfl := Eq.symm (hF 8 (hall 8 (show 8 < 10 by decide)) : x8 = _)
            dsimp only
            rw [hall 6 (show 6 < 10 by decide), hall 7 (show 7 < 10 by decide), hall 9 (show 9 < 10 by decide)] at hW
            have hQ := hW.1
            have hOz := hQ.o1 rfl
            rw [show ((args.take j).map fun u => bs u.enc) ++ [bs u.enc] = (args.take (j + 1)).map (fun u => bs u.enc) by rw [htkh.out]; simp] at hOz
            have hOz := Lib.hid hOz
            have hRz := Lib.hid hQ.row
            have hZz := Lib.hid hQ.zr
            have hKz := Lib.hid hQ.kp
            have hsz4 := hQ.sz
            obtain ⟨vv, hvv⟩ : ∃ vv, vv = x7 := ⟨_, rfl⟩
            clear hF hall hW hQ hvv hO' r7' r4' hBr' hsz3
            go_wp2_with fail
            go_roundw
            case rel => exact ⟨j + 1, x7, by omega, by go_num, (by have := hnextH.out; have := hEh.out; congr 1; omega), rfl, hOz, hRz, hZz, hKz, hsz4⟩
            case measure => simp [intOf]; omega
        · have hjn : j = n := by omega
          subst hjn
          have htn : args.take j = args := List.take_of_length_le (by rw [hnh.out]; exact Nat.le_refl _)
          rw [htn] at hO ⊢
          obtain ⟨Av, cv, ev, hSv⟩ := hO.out.strs
          rw [List.length_map, hnh.out] at ev hSv
          have cR := rRight_any k a b s args hokh.out Av cv wr (by rw [hnh.out]; exact hSv) (fun u hu => by have := hszh.out u hu; show u.len ≤ _; omega)
          rw [hnh.out] at cR
          have cRh := Lib.hid cR
          subst ev
          have hr7 := rangeAt_list r7.out
          have hr7h := Lib.hid hr7
          have hOh := hO
          clear hO htn cR hr7 hSv
          go_upto_region 56 with (first
            | (refine wpList_load_at 91 _ rfl rfl (w.heap.size + 1) 0 rfl (rnC k a b s (.slice Av j cv)) _ hr7h.out Tryz.underlying91 rfl (rn_info (cs := (rnC k a b s (.slice Av j cv)).toArray) rfl) ?_)
            | (go_at_call 109; refine cRh.out.mono ?_; rintro r w8 ⟨rfl, hb8⟩))
          have r7z := (hb8.block _ (Array.getElem?_eq_some_iff.1 r7.out).1).trans r7.out
          have r4z := Lib.hid ((hb8.block _ (Array.getElem?_eq_some_iff.1 r4.out).1).trans r4.out)
          have hr8 := Lib.hid (rangeAt_list r7z)
          have hB8 := Lib.hid (hBr.out.trans (hb8.mono hBr.out.size))
          have hO8 := OwnS.keep hOh.out hb8
          have hB9 := Lib.hid (below_setRow hB8.out (Nat.le_refl _) (g := w.heap.size) (rnC k a b s (.slice Av j cv)).toArray)
          have hO9 := OwnR.keepF (w' := w8.setRow w.heap.size (rnC k a b s (.slice Av j cv)).toArray) (F := fun q => q = w.heap.size) hO8 ⟨rfl, rfl, rfl, by simp [World.setRow], fun q _ hq => hsetRow_off hq _⟩ (fun q hq hf => by have := (hO8.1.lt q hq).1; omega)
          have hS9 : Hid (Strs (w8.setRow w.heap.size (rnC k a b s (.slice Av j cv)).toArray) Av j (args.map fun u => bs u.enc)) := by
            obtain ⟨A2, c2, e2, h2⟩ := OwnS.strs hO9
            rw [List.length_map, hnh.out] at e2 h2
            injection e2 with e3 e4 e5
            subst e3
            exact h2
          have hO9h := Lib.hid (OwnR.monoB hO9 (show w.heap.size ≤ w.heap.size + 2 by omega))
          clear hO8 hO9 r7 r4 hr7h hB8 hOh hBr
          go_wp2_with (first
            | (refine wpList_load_at 91 _ rfl rfl (w.heap.size + 1) 0 rfl (rnC k a b s (.slice Av j cv)) _ hr8.out Tryz.underlying91 rfl (rn_info (cs := (rnC k a b s (.slice Av j cv)).toArray) rfl) ?_)
            | (refine wpList_store_at 91 _ _ rfl rfl w.heap.size (rnC k a b s (.slice Av j cv)).toArray rfl rfl 91 rz r4z.out (rn_info rfl) rfl rn_all ?_))
          refine bodyPost_ret (resV3 rfl _ _ w.heap.size 91 (rnC k a b s (.slice Av j cv)).toArray (0, 0) _ _ _ rfl (hsetRow _ _ _ _ _ _ r4z.out) Tryz.underlying91 rfl (rn_info rfl) rfl rfl) rfl ?_
          refine ⟨Av, cv, ?_, ?_, hB9.out, ?_⟩
          · rw [show (Tm.mk k a b s args).args.length = j from hnh.out, hfinh.out, show P + lens args = P + lens args from rfl]
            rfl
          · show Strs _ Av args.length _
            rw [hnh.out]
            exact hS9.out
          · show OwnS _ _ (.slice Av args.length cv) _
            rw [hnh.out]
            exact hO9h.out
end Go.Proofs.YtphnakdgpilcmaaGreatDoor
