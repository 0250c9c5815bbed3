/- Texts joined: what each shows stands ahead of its theorems. -/
import Derived.Test.YtbeanjaenmpoeaaDoorZb12
import Derived.Test.YtbeanjaenmpoeaaDoorZb2
import Derived.Test.YtbeanjaenmpoeaaDoorZb6
import Derived.WalkMore
import Derived.Test.YtbeanjaenmpoeaaDoorZb10
import Derived.Test.YtbeanjaenmpoeaaDoorZb4
import Derived.Test.YtbeanjaenmpoeaaDoorZb0
namespace Go.Proofs.YtbeanjaenmpoeaaDoor
section
open Go.RowKit Go.Maps

/-- Made: its numbers l and texts in the block q, beside the arena. -/
structure Md (w0 : World) (g q B : Nat) (W : World) (AI AT : Option Addr) (n cI cT : Nat) (l : List Int) (L : List Tm) (os : List (Option Tm)) : Prop where
  st : St w0 g W L
  ml : MadeL L l os
  ll : l.length = n
  lo : os.length = n
  blk : W.heap[q]? = some (.cells #[.slice AI n cI, .slice AT n cT] 43 (0, 0))
  ids : OwnD W B (.slice AI n cI) l
  txt : OwnS W B (.slice AT n cT) (os.map fun o => bs (encO o))
  off : OffE W g (inV (.slice AI n cI))
  hB : w0.heap.size ≤ B
  hq : w0.heap.size ≤ q
section
variable {w0 : World} {g q B : Nat} {W W' : World} {AI AT : Option Addr} {n cI cT : Nat} {l : List Int} {L L' : List Tm} {os : List (Option Tm)}
theorem Md.below (h : Md w0 g q B W AI AT n cI cT l L os) (hb : Below W.heap.size W W') : Md w0 g q B W' AI AT n cI cT l L os :=
  ⟨h.st.keep hb, h.ml, h.ll, h.lo, (hb.block q (Array.getElem?_eq_some_iff.1 h.blk).1).trans h.blk, OwnR.keep h.ids hb, OwnR.keep h.txt hb, h.off.keep hb, h.hB, h.hq⟩
theorem Md.ints (h : Md w0 g q B W AI AT n cI cT l L os) : Ints W AI n l := by
  obtain ⟨A, c, e, hi⟩ := h.ids.ints
  injection e with e1 e2 e3
  rw [e1, e2]
  exact hi
theorem Md.strs (h : Md w0 g q B W AI AT n cI cT l L os) : Strs W AT n (os.map fun o => bs (encO o)) := by
  obtain ⟨A, c, e, hi⟩ := h.txt.strs
  injection e with e1 e2 e3
  rw [e1, e2]
  exact hi
theorem Md.c0 (h : Md w0 g q B W AI AT n cI cT l L os) : W.cell? ⟨q, 0, none⟩ = some (.slice AI n cI) := cell_of_row W q 0 _ _ _ h.blk
theorem Md.c1 (h : Md w0 g q B W AI AT n cI cT l L os) : W.cell? ⟨q, 1, none⟩ = some (.slice AT n cT) := cell_of_row W q 1 _ _ _ h.blk
theorem Md.row (h : Md w0 g q B W AI AT n cI cT l L os) : W.rangeAt q 0 [.slice AI n cI, .slice AT n cT] := rangeAt_list h.blk
theorem Md.made (h : Md w0 g q B W AI AT n cI cT l L os) : MadeW W AI AT n l os := ⟨h.ints, h.strs⟩
/-- One of them. -/
theorem Md.at_ (h : Md w0 g q B W AI AT n cI cT l L os) {j : Nat} (hj : j < n) : ∃ b off b' off' x o, AI = some ⟨b, off, none⟩ ∧ AT = some ⟨b', off', none⟩ ∧ b < W.heap.size ∧ b' < W.heap.size ∧ l[j]? = some x ∧ os[j]? = some o ∧ W.cell? ⟨b, off + j, none⟩ = some (.int .i64 x) ∧ W.cell? ⟨b', off' + j, none⟩ = some (.string (bs (encO o))) ∧ Nm L x o ∧ okO o := by
  obtain ⟨b, off, x, e, hb, hx, hc⟩ := h.ints.at_ hj
  obtain ⟨b', off', z, e', hb', hz, hc'⟩ := h.strs.at_ hj
  obtain ⟨o, ho⟩ : ∃ o, os[j]? = some o := ⟨os[j]'(by rw [h.lo]; exact hj), List.getElem?_eq_getElem _⟩
  rw [List.getElem?_map, ho] at hz
  have hz : bs (encO o) = z := Option.some.inj hz
  subst hz
  exact ⟨b, off, b', off', x, o, e, e', hb, hb', hx, ho, hc, hc', h.ml.nm j x o hx ho, h.ml.ok h.st.good o (List.mem_of_getElem? ho)⟩
end
/-- What Makes returned, laid in a new block. -/
def boxW (W : World) (v : Array Value) : World := (W.alloc (.cells #[.slice none 0 0, .slice none 0 0] 43)).setRow W.heap.size v
theorem md_new {w0 W W' : World} {g : Nat} {ms : List Mk} {n : Nat} {r : Ending} (hn : ms.length = n) (hw : w0.heap.size ≤ W.heap.size) (h : MakesR w0 W g ms r W') :
    ∃ AI cI AT cT l L, r = .returned (.agg #[.slice AI n cI, .slice AT n cT]) ∧ Md w0 g W'.heap.size W.heap.size (boxW W' #[.slice AI n cI, .slice AT n cT]) AI AT n cI cT l L (mksO ms []) ∧ L.length ≤ n ∧
      (W'.alloc (.cells #[.slice none 0 0, .slice none 0 0] 43)).heap[W'.heap.size]? = some (.cells #[.slice none 0 0, .slice none 0 0] 43 (0, 0)) ∧ (#[.slice AI n cI, .slice AT n cT] : Array Value).all (·.oneCell') = true ∧
      (boxW W' #[.slice AI n cI, .slice AT n cT]).heap[W'.heap.size]? = some (.cells #[.slice AI n cI, .slice AT n cT] 43 (0, 0)) := by
  obtain ⟨vI, vT, l, L, rfl, hS, hM, hL, hO, hT, ho, hz⟩ := h
  have hlo : (mksO ms []).length = n := by rw [mksO_len]; simpa using hn
  have hll : l.length = n := hM.len.trans hlo
  obtain ⟨AI, cI, eI, _⟩ := hO.ints
  obtain ⟨AT, cT, eT, _⟩ := hT.strs
  rw [hll] at eI
  rw [List.length_map, hlo] at eT
  subst eI
  subst eT
  have hnew := heap_new W' (.cells #[.slice none 0 0, .slice none 0 0] 43)
  have hb : Below W'.heap.size W' (boxW W' #[.slice AI n cI, .slice AT n cT]) := below_setRow_ (below_new W' _) (Nat.le_refl _) _
  have hrow := hsetRow _ _ _ #[.slice AI n cI, .slice AT n cT] _ _ hnew
  refine ⟨AI, cI, AT, cT, l, L, rfl, ⟨hS.keep hb, hM, hll, hlo, hrow, OwnR.keep hO hb, OwnR.keep hT hb, ho.keep hb, hw, by omega⟩, by omega, hnew, by simp [Value.oneCell'], hrow⟩
end

section
open Go.RowKit Go.Maps

theorem maxI_ge : ∀ (l : List Int) (m : Int), m ≤ maxI l m
  | [], m => Int.le_refl _
  | x :: r, m => by
    rw [maxI]
    refine Int.le_trans ?_ (maxI_ge r _)
    split <;> omega
theorem maxI_two (a b : List Int) (m : Int) : maxI (a ++ b) m = maxI b (maxI a m) := by
  induction a generalizing m with
  | nil => rfl
  | cons y r ih => exact ih _
theorem maxI_take (l : List Int) (j : Nat) (m : Int) : maxI (l.take j) m ≤ maxI l m := by
  have h := maxI_two (l.take j) (l.drop j) m
  rw [List.take_append_drop] at h
  rw [h]
  exact maxI_ge _ _
set_option maxRecDepth 100000 in
set_option maxHeartbeats 8000000 in
theorem termMakes_any (ms : List Mk) (A : Option Addr) (n c : Nat) (w : World) (hn : n ≤ 9223372036854775807) (H : Rws w 5 A n (ms.map Mk.row)) :
    Calls Tryd.prog 5 #[.slice A n c] w fun r w' => r = .returned (.bool true) ∧ Below w.heap.size w w' := by
  have cF := few_any ms A n c 30 w hn H
  have cA := Lib.hid (fun W => awake01 W)
  have hml : ms.length = n := by have := H.1; simpa using this
  cases hf : fewB ms 30 with
  | false =>
    rw [hf] at cF
    have cF := Lib.hid cF
    clear hf H hml
    go_enter Tryd.func5, Tryd.ntmps5
    go_wp2_with (first
      | (go_at_call 19; refine cF.out.mono ?_; rintro r w1 ⟨rfl, rfl⟩)
      | (go_at_call 11; refine (cA.out _).mono ?_; rintro r w1 ⟨rfl, hb⟩))
    go_ret
    exact ⟨rfl, hb⟩
  | true =>
    rw [hf] at cF
    obtain ⟨h30, h200⟩ := fewB_iff.1 hf
    have hn30 : n ≤ 30 := by omega
    have cF := Lib.hid cF
    have cN := Lib.hid (tnew_any w)
    have Hh := Lib.hid H
    have h200 := Lib.hid h200
    have hmlh := Lib.hid hml
    clear hf H hml h30
    go_enter Tryd.func5, Tryd.ntmps5
    go_upto_region 4 with (first
      | (go_at_call 19; refine cF.out.mono ?_; rintro r w1 ⟨rfl, rfl⟩)
      | (go_at_call 12; refine cN.out.mono ?_; rintro r w1 ⟨A0, rfl, hN, hA, hb⟩
         have hS0 := St.start hN hA hb
         have cM := Lib.hid (makes_any (c := c) ms w w1 A0.g (by omega) h200.out Hh.out hS0)
         have hz1 := Lib.hid hb.size
         clear hN hA hb cN hS0 cF
         generalize A0.g = g at *))
    go_upto_region 5 with (first
      | (go_at_call 20; refine cM.out.mono ?_; rintro r w2 hR
         obtain ⟨AI, cI, AT, cT, l, L, rfl, hMd, hL, hnew, hone, hrow⟩ := md_new hmlh.out hz1.out hR
         unfold boxW at hMd
         have hMdh := Lib.hid hMd
         have hnewh := Lib.hid hnew
         have honeh := Lib.hid hone
         clear hR hnew hone hrow cM hMd)
      | (refine wpList_store_at 43 _ _ rfl rfl w2.heap.size #[.slice AI n cI, .slice AT n cT] rfl rfl 43 #[.slice none 0 0, .slice none 0 0] hnewh.out (by kernel_rfl) rfl honeh.out ?_))
    generalize ((w2.alloc (.cells #[.slice none 0 0, .slice none 0 0] 43)).setRow w2.heap.size #[.slice AI n cI, .slice AT n cT]) = W4 at *
    have hB4 := Lib.hid hMdh.out.st.below
    have hlt4 := Lib.hid (show w2.heap.size < W4.heap.size from (Array.getElem?_eq_some_iff.1 hMdh.out.blk).1)
    generalize w2.heap.size = q at *
    clear hnewh honeh
    go_upto_region 7 with fail
    have hR0 := Lib.hid (Below.refl W4.heap.size W4)
    have hmx := Lib.hid hMdh.out.ml.most
    go_loopw [5, 6] (fun mv iv wr => ∃ j : Nat, j ≤ n ∧ iv = .int .i64 j ∧ mv = .int .i64 (maxI (l.take j) (-1)) ∧ Hid (Below W4.heap.size W4 wr)) (fun _ iv _ => n - (intOf iv).toNat)
    case atStart => exact ⟨0, by omega, rfl, rfl, hR0⟩
    case round =>
      clear hR0
      obtain ⟨j, hj, rfl, rfl, hbr⟩ := hrel
      by_cases hlt : j < n
      · have hM' := hMdh.out.below hbr.out
        obtain ⟨b, off, b', off', x, o, rfl, rfl, hb, hb', hx, ho, hc, hc', hnm, hok⟩ := hM'.at_ hlt
        have c0 := hM'.c0
        have c1 := hM'.c1
        have hge := maxI_ge (l.take j) (-1)
        have hst := hMdh.out.ml.step j x hx
        have htk : maxI (l.take (j + 1)) (-1) = if maxI (l.take j) (-1) < x then x else maxI (l.take j) (-1) := by rw [take_succ_of hx, maxI_app]
        have hjn : (j : Int) < (n : Int) := by omega
        have hle := maxI_take l j (-1)
        have hfew := hM'.st.few
        have hmo := hmx.out
        obtain ⟨eb, e1, e2⟩ : ∃ eb : Bool, (x == -1) = eb ∧ (bs (encO o)).toList.isEmpty = eb := by
          rw [bs_toList']
          cases o with
          | none => exact ⟨true, by rw [hnm.2 rfl]; rfl, rfl⟩
          | some t =>
            obtain ⟨i, rfl, _⟩ := get_some hnm.1
            refine ⟨false, by rw [beq_eq_false_iff_ne]; omega, ?_⟩
            have := enc_ne (t := t)
            show t.enc.isEmpty = false
            cases h : t.enc with
            | nil => exact absurd h this
            | cons a r => rfl
        have hx1 : -1 ≤ x := by
          cases o with
          | none => rw [hnm.2 rfl]; exact Int.le_refl _
          | some t => obtain ⟨i, rfl, _⟩ := get_some hnm.1; omega
        have hbr' := Lib.hid (fun W' (h : Below wr.heap.size wr W') => hbr.out.trans (h.mono hbr.out.size))
        have hlt' := Lib.hid (Nat.lt_of_lt_of_le hlt4.out hbr.out.size)
        have hMh := Lib.hid hM'
        have hxh := Lib.hid (And.intro hx (And.intro ho (And.intro hnm hok)))
        have hM1 : -1 ≤ maxI (l.take j) (-1) := hge
        have hM2 : maxI (l.take j) (-1) ≤ 100 := by omega
        have hM3 : ¬ (maxI (l.take j) (-1) + 1 < x) := by omega
        have hM4 : ¬ (x < -1) := by omega
        have htkh := Lib.hid htk
        have hstM : x ≤ 1000 := by omega
        clear hM' hx ho hnm hok hge hst htk hle hfew hmo hbr
        generalize maxI (l.take j) (-1) = M at *
        generalize hy0 : bs (encO o) = y at *
        have hyh := Lib.hid hy0
        clear hy0
        go_upto_region 9 with fail
        go_quiet (fail)
        have hMw := Lib.hid (hMh.out.below (drewN_below nq : Below wr.heap.size wr (wr.drewN nq)))
        have hBw := Lib.hid (hbr'.out _ (drewN_below nq : Below wr.heap.size wr (wr.drewN nq)))
        have hqw := Lib.hid (show q < (wr.drewN nq).heap.size from hlt'.out)
        have hcw := hc
        have hcw' := hc'
        rw [← (drewN_below nq : Below wr.heap.size wr (wr.drewN nq)).cell (p := ⟨b, off + j, none⟩) hb] at hcw
        rw [← (drewN_below nq : Below wr.heap.size wr (wr.drewN nq)).cell (p := ⟨b', off' + j, none⟩) hb'] at hcw'
        have hbw : b < (wr.drewN nq).heap.size := hb
        have hbw' : b' < (wr.drewN nq).heap.size := hb'
        clear c0 c1 hc hc' hlt' hbr' hMh hb hb'
        generalize wr.drewN nq = w5 at *
        have c0 := hMw.out.c0
        have c1 := hMw.out.c1
        have hR1 := Lib.hid (Below.refl w5.heap.size w5)
        obtain ⟨M', hM'⟩ : ∃ M', M' = maxI (l.take (j + 1)) (-1) := ⟨_, rfl⟩
        have hpp : (M < x ∧ x = M') ∨ (¬ M < x ∧ M = M') := by
          by_cases h : M < x
          · exact .inl ⟨h, by rw [hM', htkh.out, if_pos h]⟩
          · exact .inr ⟨h, by rw [hM', htkh.out, if_neg h]⟩
        have hM'h := Lib.hid hM'
        clear htkh e1 e2 hM'
        rcases hpp with ⟨hgt, hMx⟩ | ⟨hgt, hMx⟩ <;> have hMx := Lib.hid hMx <;>
        ( rename_i hMx0
          clear hMx0
          go_upto_region 14 with fail
          go_loopw [7] (fun kv wk => ∃ k : Nat, k ≤ j ∧ kv = .int .i64 k ∧ Hid (Below w5.heap.size w5 wk)) (fun kv _ => j - (intOf kv).toNat)
          case atStart => exact ⟨0, by omega, rfl, hR1⟩
          case round =>
            clear hR1
            obtain ⟨k, hk, rfl, hbk⟩ := hrel
            by_cases hkj : k < j
            · have hMk := hMw.out.below hbk.out
              have c0 := hMk.c0
              have c1 := hMk.c1
              have hcj := (hbk.out.cell (p := ⟨b, off + j, none⟩) hbw).trans hcw
              have hcj' := (hbk.out.cell (p := ⟨b', off' + j, none⟩) hbw').trans hcw'
              obtain ⟨b2, off2, b3, off3, x2, o2, eb2, eb3, _, _, hx2, ho2, hc2, hc3, hnm2, hok2⟩ := hMk.at_ (show k < n by omega)
              injection eb2 with eb2
              injection eb2 with q1 q2 _
              subst q1 q2
              injection eb3 with eb3
              injection eb3 with q1 q2 _
              subst q1 q2
              have hkn : (k : Int) < (n : Int) := by omega
              have hkj2 : (k : Int) < (j : Int) := by omega
              obtain ⟨ee, f1, f2⟩ : ∃ ee : Bool, (x == x2) = ee ∧ (y.toList == (bs (encO o2)).toList) = ee := by
                have h1 := Nm.inj hMk.st.good.once hxh.out.2.2.1 hnm2
                have h2 := encO_eq hxh.out.2.2.2 hok2
                rw [← hyh.out, bs_toList', bs_toList']
                by_cases he : o = o2
                · exact ⟨true, by rw [h1.2 he]; simp, by rw [he]; simp⟩
                · exact ⟨false, by rw [beq_eq_false_iff_ne]; exact fun h => he (h1.1 h), by rw [beq_eq_false_iff_ne]; exact fun h => he (h2.1 h)⟩
              have hbk' := Lib.hid (fun W' (h : Below wr.heap.size wr W') => hbk.out.trans (h.mono hbk.out.size))
              clear hx2 ho2 hnm2 hok2 hMk hbk
              generalize bs (encO o2) = y2 at *
              go_upto_region 16 with fail
              go_quiet (fail)
              have hbq := Lib.hid (hbk'.out _ (drewN_below nq : Below wr.heap.size wr (wr.drewN nq)))
              go_wp2_with fail
              go_roundw
              case rel => exact ⟨k + 1, by omega, by go_num, hbq⟩
              case measure => simp [intOf]; omega
            · have hkj : k = j := by omega
              subst hkj
              have hbq := Lib.hid (hBw.out.trans (hbk.out.mono hBw.out.size))
              have hxM := hMx.out
              clear hkj
              go_wp2_with fail
              go_roundw
              case rel => exact ⟨k + 1, by omega, by go_num, by rw [← hM'h.out, ← hxM], hbq⟩
              case measure => simp [intOf]; omega )
      · have hjn : j = n := by omega
        subst hjn
        clear hlt
        have hM' := hMdh.out.below hbr.out
        rw [List.take_of_length_le (Nat.le_of_eq hMdh.out.ll)]
        have cL := hM'.st.len
        have hmost := hMdh.out.ml.most
        rw [← hmost] at cL
        have cL := Lib.hid cL
        have hge := maxI_ge l (-1)
        have hle : maxI l (-1) ≤ 100 := by have := hM'.st.few; omega
        have hx0 := Lib.hid (fun W' (h : Below wr.heap.size wr W') => (show Calls Tryd.prog 21 #[.pointer (some ⟨g, 0, none⟩)] W' fun r w' => r = .returned (.int .i64 (maxI l (-1) + 1)) ∧ W' = w' by
          have := (hM'.st.keep h).len
          rwa [← hmost] at this))
        have hbr' := Lib.hid (fun W' (h : Below wr.heap.size wr W') => hB4.out.trans ((hbr.out.trans (h.mono hbr.out.size)).mono hB4.out.size))
        clear hM' cL hmost hbr
        generalize maxI l (-1) = M at *
        go_wp2_with (first
          | (go_at_call 11; refine (cA.out _).mono ?_; rintro r w5 ⟨rfl, hb5⟩
             have cL := Lib.hid (hx0.out w5 hb5)
             have hBe := Lib.hid (hbr'.out w5 hb5)
             clear hb5)
          | (go_at_call 21; refine cL.out.mono ?_; rintro r w6 ⟨rfl, rfl⟩))
        go_ret
        exact ⟨rfl, hBe.out⟩
end

section
open Go.RowKit Go.Maps

def freshT (s n : Int) : Option Tm := if 0 ≤ s ∧ s < 2147483647 then nonceT (s + 1) n else none
theorem fresh_any (A : Ar) (B : Nat) (w : World) (H : Arena w B A) (hB : B ≤ w.heap.size) (hN : A.N.length < 100) (s n : Int) :
    Calls Tryd.prog 23 #[.pointer (some ⟨A.g, 0, none⟩), .int .i64 s, .int .i64 n] w (PutR w B A (freshT s n)) := by
  by_cases h : 0 ≤ s ∧ s < 2147483647
  · have e : freshT s n = nonceT (s + 1) n := by unfold freshT; rw [if_pos h]
    rw [e]
    have cN := Lib.hid (nonce_any A B w H hB hN (s + 1) n)
    obtain ⟨h1, h2⟩ := h
    clear H e
    go_enter Tryd.func23, Tryd.ntmps23
    go_wp2_with (go_at_call 18; refine cN.out.mono ?_; rintro r w1 ⟨A', x, rfl, hG, hM⟩)
    go_ret
    exact ⟨A', x, rfl, hG, hM⟩
  · have e : freshT s n = none := by unfold freshT; rw [if_neg h]
    have hR := Lib.hid (PutR.none_ H (Below.refl _ _) e)
    by_cases h1 : s < 0
    · clear H e h
      go_enter Tryd.func23, Tryd.ntmps23
      go_wp2_with fail
      go_ret
      exact hR.out
    · have h2 : 2147483647 ≤ s := by omega
      clear H e h
      go_enter Tryd.func23, Tryd.ntmps23
      go_wp2_with fail
      go_ret
      exact hR.out
/-- May a share be? -/
def chkB (g : List UInt8) (o : Option Tm) : Bool := match o with
  | some t => t.kind == 5 && t.s == g && decide (1 ≤ t.args.length) && decide (t.args.length < 8)
  | none => false
def zN5 : Array Value := #[.int .i64 0, .int .i64 0, .int .i64 0, .string ⟨#[]⟩, .slice none 0 0]
/-- The world behind a struct's copy into a block of its own. -/
def cpW (w : World) (cs : Array Value) : World := (w.alloc (.cells #[.int .i64 0, .int .i64 0, .int .i64 0, .string ⟨#[]⟩, .slice none 0 0] 59)).setRow w.heap.size cs
theorem cpW_row (w : World) (cs : Array Value) : (cpW w cs).heap[w.heap.size]? = some (.cells cs 59 (0, 0)) := hsetRow _ _ _ _ _ _ (heap_new w _)
theorem cpW_below (w : World) (cs : Array Value) : Below w.heap.size w (cpW w cs) := below_setRow (below_new w _) (Nat.le_refl _) _
theorem bs_ext_ {x y : ByteArray} (h : x.toList = y.toList) : x = y := by
  rw [ByteArray.toList_eq, ByteArray.toList_eq] at h
  cases x; cases y
  simp only [ByteArray.mk.injEq]
  exact Array.toList_inj.1 h
set_option maxRecDepth 100000 in
set_option maxHeartbeats 2000000 in
theorem check_none (A : Ar) (B : Nat) (w : World) (H : Arena w B A) (g : List UInt8) (x : Int) (hg : get A.L x = none) :
    Calls Tryd.prog 55 #[.pointer (some ⟨A.g, 0, none⟩), .string (bs g), .int .i64 x] w fun r w' => r = .returned (.int .i64 5) ∧ Below w.heap.size w w' := by
  have cV := Lib.hid (view_none A B w H x hg)
  clear H hg
  go_enter Tryd.func55, Tryd.ntmps55
  go_upto_region 2 with (first
    | (go_at_call 28; refine cV.out.mono ?_; rintro r w1 ⟨rfl, hb⟩
       have hz1 := Lib.hid (heap_new w1 (.cells #[.int .i64 0, .int .i64 0, .int .i64 0, .string ⟨#[]⟩, .slice none 0 0] 59))
       have hB2 := Lib.hid (hb.trans ((cpW_below w1 zNd.toArray).mono hb.size))
       clear hb)
    | (refine wpList_store_at 59 _ _ rfl rfl w1.heap.size zNd.toArray rfl rfl 59 #[.int .i64 0, .int .i64 0, .int .i64 0, .string ⟨#[]⟩, .slice none 0 0] hz1.out (by kernel_rfl) rfl zNd_one ?_))
  have hB2 : Below w.heap.size w ((w1.alloc (.cells #[.int .i64 0, .int .i64 0, .int .i64 0, .string ⟨#[]⟩, .slice none 0 0] 59)).setRow w1.heap.size zNd.toArray) := hB2.out
  generalize (w1.alloc (.cells #[.int .i64 0, .int .i64 0, .int .i64 0, .string ⟨#[]⟩, .slice none 0 0] 59)).setRow w1.heap.size zNd.toArray = w2 at *
  have hB2 := Lib.hid hB2
  go_wp2_with fail
  go_ret
  exact ⟨rfl, hB2.out⟩
set_option maxRecDepth 100000 in
set_option maxHeartbeats 2000000 in
theorem check_some (A : Ar) (B : Nat) (w : World) (H : Arena w B A) (g : List UInt8) (x : Int) (t : Tm) (hg : get A.L x = some t) :
    Calls Tryd.prog 55 #[.pointer (some ⟨A.g, 0, none⟩), .string (bs g), .int .i64 x] w fun r w' => r = .returned (.int .i64 (if chkB g (some t) then 0 else 5)) ∧ Below w.heap.size w w' := by
  have cV := Lib.hid (view_some A B w H x t hg)
  have hal : t.args.length ≤ 1000000 := by
    have hok := H.good.ok t (get_mem hg)
    obtain ⟨k, a, b, s, args⟩ := t
    rw [ok_mk] at hok
    have := hok.1
    unfold okHd at this
    simp only [Tm.args]
    omega
  obtain ⟨k, a, b, s, args⟩ := t
  simp only [Tm.args] at hal
  have hchk : chkB g (some (.mk k a b s args)) = (k == 5 && s == g && decide (1 ≤ args.length) && decide (args.length < 8)) := rfl
  rw [hchk]
  clear hchk
  obtain ⟨e, he⟩ : ∃ e : Int, (if (k == 5 && s == g && decide (1 ≤ args.length) && decide (args.length < 8)) = true then (0 : Int) else 5) = e := ⟨_, rfl⟩
  rw [he]
  have he := Lib.hid he
  clear H hg
  go_enter Tryd.func55, Tryd.ntmps55
  go_upto_region 2 with (first
    | (go_at_call 28; refine cV.out.mono ?_; rintro r w1 ⟨Av, c, xs, rfl, _, _, hb⟩
       have hz1 := Lib.hid (heap_new w1 (.cells #[.int .i64 0, .int .i64 0, .int .i64 0, .string ⟨#[]⟩, .slice none 0 0] 59))
       have hB2 := Lib.hid (hb.trans ((cpW_below w1 (ndC k a b s (.slice Av args.length c)).toArray).mono hb.size))
       have hr2 := Lib.hid (cpW_row w1 (ndC k a b s (.slice Av args.length c)).toArray)
       clear hb)
    | (refine wpList_store_at 59 _ _ rfl rfl w1.heap.size (ndC k a b s (.slice Av args.length c)).toArray rfl rfl 59 #[.int .i64 0, .int .i64 0, .int .i64 0, .string ⟨#[]⟩, .slice none 0 0] hz1.out (by kernel_rfl) rfl nd_all ?_))
  have hr : ((w1.alloc (.cells #[.int .i64 0, .int .i64 0, .int .i64 0, .string ⟨#[]⟩, .slice none 0 0] 59)).setRow w1.heap.size (ndC k a b s (.slice Av args.length c)).toArray).heap[w1.heap.size]? = some (.cells (ndC k a b s (.slice Av args.length c)).toArray 59 (0, 0)) := hr2.out
  have hB3 : Below w.heap.size w ((w1.alloc (.cells #[.int .i64 0, .int .i64 0, .int .i64 0, .string ⟨#[]⟩, .slice none 0 0] 59)).setRow w1.heap.size (ndC k a b s (.slice Av args.length c)).toArray) := hB2.out
  clear hr2 hz1 cV
  generalize (w1.alloc (.cells #[.int .i64 0, .int .i64 0, .int .i64 0, .string ⟨#[]⟩, .slice none 0 0] 59)).setRow w1.heap.size (ndC k a b s (.slice Av args.length c)).toArray = w2 at *
  have d0 : w2.cell? ⟨w1.heap.size, 0, none⟩ = some (.int .i64 k) := cell_of_row w2 w1.heap.size 0 _ _ _ hr
  have d3 : w2.cell? ⟨w1.heap.size, 3, none⟩ = some (.string (bs s)) := cell_of_row w2 w1.heap.size 3 _ _ _ hr
  have d4 : w2.cell? ⟨w1.heap.size, 4, none⟩ = some (.slice Av args.length c) := cell_of_row w2 w1.heap.size 4 _ _ _ hr
  have hB3 := Lib.hid hB3
  clear hr hB2
  by_cases hk : k = 5
  · subst hk
    by_cases hs : s = g
    · subst hs
      by_cases h1 : 1 ≤ args.length
      · by_cases h8 : args.length < 8
        · have h1' : ¬ args.length < 1 := by omega
          have h8' : ¬ 8 ≤ args.length := by omega
          go_wp2_with fail
          go_ret
          exact ⟨by rw [← he.out]; simp [h1, h8], hB3.out⟩
        · have h8' : 8 ≤ args.length := by omega
          have h1' : ¬ args.length < 1 := by omega
          go_wp2_with fail
          go_ret
          exact ⟨by rw [← he.out]; simp [h8], hB3.out⟩
      · have h0 : args.length < 1 := by omega
        go_wp2_with fail
        go_ret
        exact ⟨by rw [← he.out]; simp [h1], hB3.out⟩
    · have hs' : ((bs s).toList == (bs g).toList) = false := beq_eq_false_iff_ne.2 (fun e => hs (bs_inj (bs_ext_ e)))
      go_wp2_with fail
      go_ret
      exact ⟨by rw [← he.out]; simp [hs], hB3.out⟩
  · have hk' : ¬ (k : Int) = 5 := by omega
    go_wp2_with fail
    go_ret
    exact ⟨by rw [← he.out]; simp [hk], hB3.out⟩
end

section
open Go.RowKit Go.Maps

/-- A list with at most so many terms more. -/
def Ext (L L' : List Tm) (k : Nat) : Prop := ∃ r, L' = L ++ r ∧ r.length ≤ k
theorem Ext.refl (L : List Tm) : Ext L L 0 := ⟨[], by simp, by simp⟩
theorem Ext.trans {a b c : List Tm} {j k : Nat} (h : Ext a b j) (h2 : Ext b c k) : Ext a c (j + k) := by
  obtain ⟨r, rfl, hr⟩ := h
  obtain ⟨s, rfl, hs⟩ := h2
  exact ⟨r ++ s, by simp, by simp; omega⟩
theorem Ext.mono {a b : List Tm} {j k : Nat} (h : Ext a b j) (hjk : j ≤ k) : Ext a b k := by
  obtain ⟨r, e, hr⟩ := h
  exact ⟨r, e, by omega⟩
theorem Ext.of_grow {L L' : List Tm} {o : Option Tm} (h : Grow L L' o) : Ext L L' 1 := by
  rcases h with ⟨rfl, _⟩ | ⟨t, _, _, rfl⟩
  · exact ⟨[], by simp, by simp⟩
  · exact ⟨[t], rfl, by simp⟩
theorem Ext.len {L L' : List Tm} {k : Nat} (h : Ext L L' k) : L'.length ≤ L.length + k := by
  obtain ⟨r, rfl, hr⟩ := h
  simp; omega
theorem Nm.ext {L L' : List Tm} {x : Int} {o : Option Tm} {k : Nat} (h : Nm L x o) (e : Ext L L' k) : Nm L' x o := by
  obtain ⟨r, rfl, _⟩ := e
  exact h.app
theorem Nm.of_get {L : List Tm} {x : Int} {t : Tm} (h : get L x = some t) : Nm L x (some t) := ⟨h, fun e => by cases e⟩
/-- A term more, in at most so many steps. -/
def SP (w : World) (g : Nat) (W : World) (L : List Tm) (k : Nat) (o : Option Tm) (r : Ending) (W' : World) : Prop := ∃ L' x, r = .returned (.int .i64 x) ∧ St w g W' L' ∧ Ext L L' k ∧ Nm L' x o ∧ Stay W W' ∧ W.heap.size ≤ W'.heap.size
theorem SP.of_sr {w : World} {g : Nat} {W : World} {L : List Tm} {o : Option Tm} {r : Ending} {W' : World} (h : SR w g W L o r W') : SP w g W L 1 o r W' := by
  obtain ⟨L', x, e, hS, hG, hM, hY, hZ, -⟩ := h
  exact ⟨L', x, e, hS, .of_grow hG, hM, hY, hZ⟩
def offerT (g : List UInt8) (x : Option Tm) : Option Tm := expT (baseT g) x
def secretT (g : List UInt8) (s x : Option Tm) : Option Tm := if chkB g s then expT s x else none
def errT (o : Option Tm) : Int := match o with | none => 5 | some _ => 0
section
variable {w : World} {g : Nat} {W : World} {L : List Tm} (h : St w g W L)
include h
theorem St.view_none (x : Int) (hg : get L x = none) : Calls Tryd.prog 28 #[.pointer (some ⟨g, 0, none⟩), .int .i64 x] W fun r w' => r = .returned (.tuple #[.agg zNd.toArray, .bool false]) ∧ Below W.heap.size W w' := by
  obtain ⟨A, rfl, rfl, H, _⟩ := h; exact Go.Proofs.YtbeanjaenmpoeaaDoor.view_none A _ W H x hg
theorem St.view_some (x : Int) (t : Tm) (hg : get L x = some t) : Calls Tryd.prog 28 #[.pointer (some ⟨g, 0, none⟩), .int .i64 x] W fun r w' => ∃ (Av : Option Addr) (c : Nat) (xs : List Nat), r = .returned (.tuple #[.agg (ndC t.kind t.a t.b t.s (.slice Av t.args.length c)).toArray, .bool true]) ∧ Rws w' 1 Av t.args.length (xs.map idv) ∧ xs.map (fun i => L[i]?) = t.args.map some ∧ Below W.heap.size W w' := by
  obtain ⟨A, rfl, rfl, H, _⟩ := h; exact Go.Proofs.YtbeanjaenmpoeaaDoor.view_some A _ W H x t hg
theorem St.check (gs : List UInt8) (x : Int) :
    Calls Tryd.prog 55 #[.pointer (some ⟨g, 0, none⟩), .string (bs gs), .int .i64 x] W fun r w' => r = .returned (.int .i64 (if chkB gs (get L x) then 0 else 5)) ∧ Below W.heap.size W w' := by
  obtain ⟨A, rfl, rfl, H, _⟩ := h
  cases e : get A.L x with
  | none => exact check_none A _ W H gs x e
  | some t => exact check_some A _ W H gs x t e
theorem St.fresh (hL : L.length < 100) (s n : Int) : Calls Tryd.prog 23 #[.pointer (some ⟨g, 0, none⟩), .int .i64 s, .int .i64 n] W (SR w g W L (freshT s n)) :=
  h.put hL fun A h1 _ H hB hN => by subst h1; exact fresh_any A _ W H hB hN s n
theorem St.offer (hL : L.length < 99) (gs : List UInt8) (hs : gs.length ≤ 4000000000) (x : Int) (o : Option Tm) (hx : Nm L x o) :
    Calls Tryd.prog 25 #[.pointer (some ⟨g, 0, none⟩), .string (bs gs), .int .i64 x] W (SP w g W L 2 (offerT gs o)) := by
  have cB := Lib.hid (h.base (by omega) gs hs)
  have hx := Lib.hid hx
  clear h
  go_enter Tryd.func25, Tryd.ntmps25
  go_wp2_with (first
    | (go_at_call 16; refine cB.out.mono ?_; rintro r w1 ⟨L1, b, rfl, hS1, hG1, hM1, hY1, hz1, -⟩
       have cE := hS1.exp (by have := hG1.len.2; omega) b x
       rw [hM1.1, (hx.out.grow hG1).1] at cE
       have cE := Lib.hid cE
       have hE1 := Lib.hid (Ext.of_grow hG1)
       have hY1 := Lib.hid hY1
       clear hS1 hG1 hM1 cB)
    | (go_at_call 17; refine cE.out.mono ?_; rintro r w2 ⟨L2, y, rfl, hS2, hG2, hM2, hY2, hz2, -⟩))
  go_ret
  exact ⟨L2, y, rfl, hS2, hE1.out.trans (.of_grow hG2), hM2, hY1.out.trans hY2, Nat.le_trans hz1 hz2⟩
theorem St.secret (hL : L.length < 100) (gs : List UInt8) (y x : Int) (so o : Option Tm) (hy : Nm L y so) (hx : Nm L x o) :
    Calls Tryd.prog 24 #[.pointer (some ⟨g, 0, none⟩), .string (bs gs), .int .i64 y, .int .i64 x] W fun r w' => ∃ L' z, r = .returned (.tuple #[.int .i64 z, .int .i64 (errT (secretT gs so o))]) ∧ St w g w' L' ∧ Ext L L' 1 ∧ Nm L' z (secretT gs so o) ∧ Stay W w' ∧ W.heap.size ≤ w'.heap.size := by
  have cC := h.check gs y
  rw [hy.1] at cC
  by_cases hc : chkB gs so = true
  · have e : secretT gs so o = expT so o := by unfold secretT; rw [if_pos hc]
    rw [e]
    rw [if_pos hc] at cC
    have cE := fun (w1 : World) (hb : Below W.heap.size W w1) => (h.keep hb).exp hL y x
    rw [hy.1, hx.1] at cE
    have cE := Lib.hid cE
    have cC := Lib.hid cC
    clear h hc e
    go_enter Tryd.func24, Tryd.ntmps24
    go_upto_region 5 with (first
      | (go_at_call 55; refine cC.out.mono ?_; rintro r w1 ⟨rfl, hb⟩
         have cE1 := Lib.hid (cE.out w1 hb)
         have hY1 := Lib.hid (Stay.of_below hb)
         have hz1 := hb.size
         clear hb cE)
      | (go_at_call 17; refine cE1.out.mono ?_; rintro r w2 ⟨L2, z, rfl, hS2, hG2, hM2, hY2, hz2, -⟩))
    have hE := Lib.hid (Ext.of_grow hG2)
    have hS2 := Lib.hid hS2
    have hY := Lib.hid (hY1.out.trans hY2)
    have hz := Nat.le_trans hz1 hz2
    have hM3 := hM2
    clear hG2 hY1 hY2 hz1 hz2 cE1 cC
    cases hq : expT so o with
    | none =>
      rw [hq] at hM2
      obtain rfl := hM2.2 rfl
      have hM2 := Lib.hid hM2
      have hqh := Lib.hid hq
      clear hM3 hq
      go_wp2_with fail
      go_ret2
      rw [hqh.out]
      exact ⟨L2, -1, rfl, hS2.out, hE.out, hM2.out, hY.out, hz⟩
    | some t =>
      rw [hq] at hM2
      have hzn : (z == -1) = false := by
        rw [beq_eq_false_iff_ne]
        obtain ⟨i, e, _⟩ := get_some hM2.1
        omega
      have hzn2 : ¬ z = -1 := beq_eq_false_iff_ne.1 hzn
      have hM2 := Lib.hid hM2
      have hqh := Lib.hid hq
      clear hM3 hq
      go_wp2_with fail
      go_ret2
      rw [hqh.out]
      exact ⟨L2, z, rfl, hS2.out, hE.out, hM2.out, hY.out, hz⟩
  · have e : secretT gs so o = none := by unfold secretT; rw [if_neg hc]
    rw [e]
    rw [if_neg hc] at cC
    have hk := Lib.hid (fun (w1 : World) (hb : Below W.heap.size W w1) => h.keep hb)
    have cC := Lib.hid cC
    clear h hc e
    go_enter Tryd.func24, Tryd.ntmps24
    go_wp2_with (go_at_call 55; refine cC.out.mono ?_; rintro r w1 ⟨rfl, hb⟩)
    go_ret2
    exact ⟨L, -1, rfl, hk.out w1 hb, (Ext.refl L).mono (by decide), Nm.none_ L, Stay.of_below hb, hb.size⟩
end
end

section
open Go.RowKit Go.Maps

set_option maxRecDepth 100000 in
set_option maxHeartbeats 8000000 in
theorem same_any {AI AT Av Ar' : Option Addr} {n cI cT m cv cr : Nat} {l : List Int} {L : List Tm} {os : List (Option Tm)} (t : Tm) (xs : List Nat) (w : World) (hn : n ≤ 1000) (hm : t.args.length = m) (hm4 : m ≤ 1000)
    (hk : t.kind ≤ 1000000000000) (ha : t.a ≤ 1000000000000) (hb : t.b ≤ 1000000000000) (hM : MadeW w AI AT n l os) (hN : NmL L l os) (hG : Good L) (hR : Rws w 1 Av m (xs.map idv)) (hx : xs.map (fun i => L[i]?) = t.args.map some) (hS : Strs w Ar' m (t.args.map fun u => bs u.enc)) :
    Calls Tryd.prog 30 #[.agg #[.slice AI n cI, .slice AT n cT], .agg (ndC t.kind t.a t.b t.s (.slice Av m cv)).toArray, .agg (rnC t.kind t.a t.b t.s (.slice Ar' m cr)).toArray] w fun r w' => r = .returned (.bool true) ∧ Below w.heap.size w w' := by
  have hB := ((below_new w (.cells #[.slice AI n cI, .slice AT n cT] 43)).alloc (below_new w (.cells #[.slice AI n cI, .slice AT n cT] 43)).size (.cells (ndC t.kind t.a t.b t.s (.slice Av m cv)).toArray 59)).alloc ((below_new w (.cells #[.slice AI n cI, .slice AT n cT] 43)).alloc (below_new w (.cells #[.slice AI n cI, .slice AT n cT] 43)).size (.cells (ndC t.kind t.a t.b t.s (.slice Av m cv)).toArray 59)).size (.cells (rnC t.kind t.a t.b t.s (.slice Ar' m cr)).toArray 64)
  have hr1 := heap_past (heap_past (heap_new w (.cells #[.slice AI n cI, .slice AT n cT] 43)) (.cells (ndC t.kind t.a t.b t.s (.slice Av m cv)).toArray 59)) (.cells (rnC t.kind t.a t.b t.s (.slice Ar' m cr)).toArray 64)
  have hr2 := heap_past (heap_new (w.alloc (.cells #[.slice AI n cI, .slice AT n cT] 43)) (.cells (ndC t.kind t.a t.b t.s (.slice Av m cv)).toArray 59)) (.cells (rnC t.kind t.a t.b t.s (.slice Ar' m cr)).toArray 64)
  have hr3 := heap_new ((w.alloc (.cells #[.slice AI n cI, .slice AT n cT] 43)).alloc (.cells (ndC t.kind t.a t.b t.s (.slice Av m cv)).toArray 59)) (.cells (rnC t.kind t.a t.b t.s (.slice Ar' m cr)).toArray 64)
  rw [World.size_alloc] at hr2
  rw [World.size_alloc, World.size_alloc] at hr3
  have hBh := Lib.hid hB
  have hMh := Lib.hid (And.intro (hM.ids.keep hB) (And.intro (hM.txt.keep hB) (And.intro (Rws.keep hR hB) (Strs.keep hS hB))))
  have hmh := Lib.hid hm
  have hxh := Lib.hid hx
  have hxl : xs.length = m := by have := congrArg List.length hx; simpa [hm] using this
  have hxlh := Lib.hid hxl
  have hNh := Lib.hid hN
  have hGh := Lib.hid hG
  have d0 := cell_of_row _ w.heap.size 0 _ _ _ hr1
  have d1 := cell_of_row _ w.heap.size 1 _ _ _ hr1
  have n0 := cell_of_row _ (w.heap.size + 1) 0 _ _ _ hr2
  have n1 := cell_of_row _ (w.heap.size + 1) 1 _ _ _ hr2
  have n2 := cell_of_row _ (w.heap.size + 1) 2 _ _ _ hr2
  have n3 := cell_of_row _ (w.heap.size + 1) 3 _ _ _ hr2
  have n4 := cell_of_row _ (w.heap.size + 1) 4 _ _ _ hr2
  have r0 := cell_of_row _ (w.heap.size + 1 + 1) 0 _ _ _ hr3
  have r1 := cell_of_row _ (w.heap.size + 1 + 1) 1 _ _ _ hr3
  have r2 := cell_of_row _ (w.heap.size + 1 + 1) 2 _ _ _ hr3
  have r3 := cell_of_row _ (w.heap.size + 1 + 1) 3 _ _ _ hr3
  have r4 := cell_of_row _ (w.heap.size + 1 + 1) 4 _ _ _ hr3
  have hl1 := Lib.hid (Array.getElem?_eq_some_iff.1 hr1).1
  have hl2 := Lib.hid (Array.getElem?_eq_some_iff.1 hr2).1
  have hl3 := Lib.hid (Array.getElem?_eq_some_iff.1 hr3).1
  clear hr1 hr2 hr3 hB hM hN hG hR hx hS hm hxl
  unfold ndC rnC at *
  go_enter Tryd.func30, Tryd.ntmps30
  go_upto_region 1 with fail
  generalize (((w.alloc (.cells #[.slice AI n cI, .slice AT n cT] 43)).alloc (.cells [Value.int .i64 t.kind, .int .i64 t.a, .int .i64 t.b, .string (bs t.s), .slice Av m cv].toArray 59)).alloc (.cells [Value.int .i64 t.kind, .int .i64 t.a, .int .i64 t.b, .string (bs t.s), .slice Ar' m cr].toArray 64)) = W at *
  go_upto_region 4 with fail
  have hR0 := Lib.hid (Below.refl W.heap.size W)
  have hc0 := Lib.hid (And.intro d0 (And.intro d1 (And.intro n4 r4)))
  clear n0 n1 n2 n3 r0 r1 r2 r3 d0 d1 n4 r4 hk ha hb
  go_loopw [7] (fun iv wr => ∃ i : Nat, i ≤ m ∧ iv = .int .i64 i ∧ Hid (Below W.heap.size W wr)) (fun iv _ => m - (intOf iv).toNat)
  case atStart => exact ⟨0, by omega, rfl, hR0⟩
  case round =>
    clear hR0
    obtain ⟨i, hi, rfl, hbr⟩ := hrel
    have d0 := (hbr.out.cell (p := ⟨w.heap.size, 0, none⟩) hl1.out).trans hc0.out.1
    have n4 := (hbr.out.cell (p := ⟨w.heap.size + 1, 4, none⟩) hl2.out).trans hc0.out.2.2.1
    by_cases him : i < m
    · have himi : (i : Int) < (m : Int) := by omega
      go_upto_region 7 with fail
      have hR1 := Lib.hid (Below.refl wr.heap.size wr)
      clear d0 n4
      go_loopw [8] (fun kv wk => ∃ k : Nat, k ≤ n ∧ kv = .int .i64 k ∧ Hid (Below wr.heap.size wr wk)) (fun kv _ => n - (intOf kv).toNat)
      case atStart => exact ⟨0, by omega, rfl, hR1⟩
      case round =>
        clear hR1
        obtain ⟨k, hk, rfl, hbk⟩ := hrel
        rename_i wq _
        have hbW := hbr.out.trans (hbk.out.mono hbr.out.size)
        have d0 := (hbW.cell (p := ⟨w.heap.size, 0, none⟩) hl1.out).trans hc0.out.1
        have d1 := (hbW.cell (p := ⟨w.heap.size, 1, none⟩) hl1.out).trans hc0.out.2.1
        have n4 := (hbW.cell (p := ⟨w.heap.size + 1, 4, none⟩) hl2.out).trans hc0.out.2.2.1
        have r4 := (hbW.cell (p := ⟨w.heap.size + 1 + 1, 4, none⟩) hl3.out).trans hc0.out.2.2.2
        by_cases hkn : k < n
        · have hkni : (k : Int) < (n : Int) := by omega
          obtain ⟨hI, hT, hA, hU⟩ := hMh.out
          obtain ⟨b1, o1, x, rfl, hb1, hx1, hc1⟩ := (hI.keep hbW).at_ hkn
          obtain ⟨b2, o2, z2, rfl, hb2, hz2, hc2⟩ := (hT.keep hbW).at_ hkn
          obtain ⟨b3, o3, z3, rfl, hb3, hz3, _, hc3⟩ := (Rws.keep hA hbW).row him
          obtain ⟨b4, o4, z4, rfl, hb4, hz4, hc4⟩ := (Strs.keep hU hbW).at_ him
          obtain ⟨o, ho⟩ : ∃ o, os[k]? = some o := by
            cases ho : os[k]? with
            | none => rw [List.getElem?_map, ho] at hz2; cases hz2
            | some o => exact ⟨o, rfl⟩
          rw [List.getElem?_map, ho] at hz2
          have hz2 : bs (encO o) = z2 := Option.some.inj hz2
          obtain ⟨u, hu⟩ : ∃ u, t.args[i]? = some u := by
            cases hu : t.args[i]? with
            | none => rw [List.getElem?_map, hu] at hz4; cases hz4
            | some o => exact ⟨o, rfl⟩
          rw [List.getElem?_map, hu] at hz4
          have hz4 : bs u.enc = z4 := Option.some.inj hz4
          obtain ⟨y, hy⟩ : ∃ y, xs[i]? = some y := ⟨xs[i]'(by have := hxlh.out; omega), List.getElem?_eq_getElem _⟩
          rw [List.getElem?_map, hy] at hz3
          have hz3 : idv y = z3 := Option.some.inj hz3
          subst hz3
          have hc3 := hc3 0 (.int .i64 y) rfl
          rw [Nat.mul_one, Nat.add_zero] at hc3
          have hLy : L[y]? = some u := by
            have := congrArg (fun q => q[i]?) hxh.out
            simp only [List.getElem?_map, hy, hu] at this
            simpa using this
          obtain ⟨ee, f1, f2⟩ : ∃ ee : Bool, (x == (y : Int)) = ee ∧ (z2.toList == z4.toList) = ee := by
            have hNx := hNh.out.nm k x o hx1 ho
            have hNy : Nm L (y : Int) (some u) := ⟨by rw [get_nat]; exact hLy, fun e => by cases e⟩
            have h1 := Nm.inj hGh.out.once hNx hNy
            have h2 := encO_eq (hNh.out.ok hGh.out o (List.mem_of_getElem? ho)) (show okO (some u) from fun v hv => by injection hv with hv; subst hv; exact hGh.out.ok _ (List.mem_of_getElem? hLy))
            rw [← hz2, ← hz4, bs_toList', bs_toList']
            by_cases he : o = some u
            · exact ⟨true, by rw [h1.2 he]; simp, by rw [he]; simp [encO]⟩
            · exact ⟨false, by rw [beq_eq_false_iff_ne]; exact fun h => he (h1.1 h), by rw [beq_eq_false_iff_ne]; exact fun h => he (h2.1 h)⟩
          have hbk' := Lib.hid (fun W' (h : Below wr.heap.size wr W') => hbk.out.trans (h.mono hbk.out.size))
          clear hx1 ho hz2 hu hz4 hy hLy hI hT hA hU hbW hbk
          go_upto_region 9 with fail
          go_quiet (fail)
          have hbq := Lib.hid (hbk'.out _ (drewN_below nq : Below wr.heap.size wr (wr.drewN nq)))
          go_wp2_with fail
          go_roundw
          case rel => exact ⟨k + 1, by omega, by go_num, hbq⟩
          case measure => simp [intOf]; omega
        · have hkn : k = n := by omega
          subst hkn
          have hbq := Lib.hid hbW
          clear hbW
          go_wp2_with fail
          go_roundw
          case rel => exact ⟨i + 1, by omega, by go_num, hbq⟩
          case measure => simp [intOf]; omega
    · have him : i = m := by omega
      subst him
      have hbq := Lib.hid (hBh.out.trans (hbr.out.mono hBh.out.size))
      go_wp2_with fail
      go_ret
      exact ⟨rfl, hbq.out⟩
end

section
open Go.RowKit Go.Maps

theorem put_nil (k a b : Nat) (s : List UInt8) (w : World) :
    Calls Tryd.prog 45 #[.pointer none, .agg #[.int .i64 k, .int .i64 a, .int .i64 b, .string (bs s), .slice none 0 0]] w fun r w' => r = .returned (.int .i64 (-1)) ∧ Below w.heap.size w w' := by
  have hB := Lib.hid (below_new w (.cells #[.int .i64 k, .int .i64 a, .int .i64 b, .string (bs s), .slice none 0 0] 59))
  go_enter Tryd.func45, Tryd.ntmps45
  go_wp2_with fail
  go_ret
  exact ⟨rfl, hB.out⟩
theorem data_nil (w : World) :
    Calls Tryd.prog 13 #[.pointer none, .string ⟨#[]⟩] w fun r w' => r = .returned (.int .i64 (-1)) ∧ Below w.heap.size w w' := by
  have cP := Lib.hid (show Calls Tryd.prog 45 #[.pointer none, .agg #[.int .i64 1, .int .i64 0, .int .i64 0, .string ⟨#[]⟩, .slice none 0 0]] w _ from put_nil 1 0 0 [] w)
  go_enter Tryd.func13, Tryd.ntmps13
  go_wp2_with (go_at_call 45; refine cP.out.mono ?_; rintro r w1 ⟨rfl, hb⟩)
  go_ret
  exact ⟨rfl, hb⟩
theorem list_nil (w : World) :
    Calls Tryd.prog 15 #[.pointer none, .slice none 0 0] w fun r w' => r = .returned (.int .i64 (-1)) ∧ Below w.heap.size w w' := by
  have cP := Lib.hid (show Calls Tryd.prog 45 #[.pointer none, .agg #[.int .i64 10, .int .i64 0, .int .i64 0, .string ⟨#[]⟩, .slice none 0 0]] w _ from put_nil 10 0 0 [] w)
  go_enter Tryd.func15, Tryd.ntmps15
  go_wp2_with (go_at_call 45; refine cP.out.mono ?_; rintro r w1 ⟨rfl, hb⟩)
  go_ret
  exact ⟨rfl, hb⟩
theorem kind_nil (x : Int) (w : World) :
    Calls Tryd.prog 29 #[.pointer none, .int .i64 x] w fun r w' => r = .returned (.int .i64 0) ∧ w = w' := by
  have cH := Lib.hid (has_nil x w)
  go_enter Tryd.func29, Tryd.ntmps29
  go_wp2_with (go_at_call 46; refine cH.out.mono ?_; rintro r w1 ⟨rfl, rfl⟩)
  go_ret
  exact ⟨rfl, rfl⟩
theorem size_nil (x : Int) (w : World) :
    Calls Tryd.prog 14 #[.pointer none, .int .i64 x] w fun r w' => r = .returned (.int .i64 0) ∧ w = w' := by
  have cH := Lib.hid (has_nil x w)
  go_enter Tryd.func14, Tryd.ntmps14
  go_wp2_with (go_at_call 46; refine cH.out.mono ?_; rintro r w1 ⟨rfl, rfl⟩)
  go_ret
  exact ⟨rfl, rfl⟩
theorem view_nil (x : Int) (w : World) :
    Calls Tryd.prog 28 #[.pointer none, .int .i64 x] w fun r w' => r = .returned (.tuple #[.agg zNd.toArray, .bool false]) ∧ Below w.heap.size w w' := by
  have hB1 := below_new w (.cells zNd.toArray 59)
  have cH := Lib.hid (has_nil x (w.alloc (.cells zNd.toArray 59)))
  have hz1 := Lib.hid (heap_new w (.cells zNd.toArray 59))
  have hB1 := Lib.hid hB1
  go_enter Tryd.func28, Tryd.ntmps28
  go_wp2_with (first
    | (go_at_call 46; refine cH.out.mono ?_; rintro r w1 ⟨rfl, rfl⟩)
    | (refine wpList_store_at 59 _ _ rfl rfl w.heap.size zNd.toArray rfl rfl 59 zNd.toArray hz1.out (by kernel_rfl) rfl zNd_one ?_))
  refine bodyPost_ret (resV2 rfl _ _ w.heap.size 59 zNd.toArray (0, 0) _ _ rfl (hsetRow _ _ _ _ _ _ hz1.out) Tryd.underlying59 rfl (by kernel_rfl) rfl) rfl ⟨rfl, below_setRow hB1.out (Nat.le_refl _) _⟩
end

section
open Go

/-- A frame, with some slots written. -/
def upd (us : List (Nat × Value)) (A : Array Value) : Array Value := us.foldl (fun A p => A.setIfInBounds p.1 p.2) A
theorem gd_eq {A : Array Value} {s : Nat} {v : Value} (h : s < A.size) : (A.setIfInBounds s v).getD s undef = v := by simp [Array.getD_eq_getD_getElem?, h]
theorem gd_ne {A : Array Value} {s r : Nat} {v : Value} (h : s ≠ r) : (A.setIfInBounds s v).getD r undef = A.getD r undef := by simp [Array.getD_eq_getD_getElem?, Array.getElem?_setIfInBounds, h]
theorem gd_out {A : Array Value} {s : Nat} (h : A.size ≤ s) : A.getD s undef = undef := by simp [Array.getD_eq_getD_getElem?, Array.getElem?_eq_none h]
theorem arr_ext {T U : Array Value} (hs : T.size = U.size) (h : ∀ s, T.getD s undef = U.getD s undef) : T = U := by
  refine Array.ext hs fun i h1 h2 => ?_
  have := h i
  simpa [Array.getD_eq_getD_getElem?, Array.getElem?_eq_getElem h1, Array.getElem?_eq_getElem h2] using this
theorem upd_eq {T : Array Value} : ∀ {us : List (Nat × Value)} {A : Array Value}, T.size = A.size → (∀ p ∈ us, T.getD p.1 undef = p.2) → (∀ s, s ∉ us.map Prod.fst → T.getD s undef = A.getD s undef) → T = upd us A
  | [], A, hs, _, h => arr_ext hs fun s => h s (by simp)
  | (s, v) :: r, A, hs, hv, h => by
    have h0 : T.getD s undef = v := hv (s, v) (by simp)
    refine upd_eq (us := r) (A := A.setIfInBounds s v) (by simpa using hs) (fun p hp => hv p (by simp [hp])) fun s' hs' => ?_
    by_cases e : s = s'
    · subst e
      rcases Nat.lt_or_ge s A.size with h1 | h1
      · rw [gd_eq h1, h0]
      · rw [gd_out (by omega), gd_out (by simpa using h1)]
    · rw [gd_ne e]
      exact h s' (by simp only [List.map_cons, List.mem_cons, not_or]; exact ⟨Ne.symm e, hs'⟩)
/-- No other operation writes this slot. -/
def uniq (ds : List (Option Nat)) (k s : Nat) : Bool := (List.range ds.length).all fun j => j == k || ds[j]? != some (some s)
theorem uniq_of {ds : List (Option Nat)} {k s j : Nat} (h : uniq ds k s = true) (hj : ds[j]? = some (some s)) : j = k := by
  unfold uniq at h
  have hl : j < ds.length := by
    rcases Nat.lt_or_ge j ds.length with h1 | h1
    · exact h1
    · rw [List.getElem?_eq_none h1] at hj; cases hj
  have := List.all_eq_true.1 h j (List.mem_range.2 hl)
  rw [hj] at this
  simpa using this
section
variable (T0 : Array Value) (ds : List (Option Nat)) (vs : List (Option Value)) (Wi : (Nat → Bool) → Array Value → World → Prop)
/-- What is known of the frame. -/
structure FW (L : Nat → Bool) (T : Array Value) : Prop where
  size : T.size = T0.size
  old : ∀ s, some s ∉ ds → T.getD s undef = T0.getD s undef
  val : ∀ k s u, L k = true → ds[k]? = some (some s) → vs[k]? = some (some u) → T.getD s undef = u
def IW (L : Nat → Bool) (ac : Act) (W : World) : Prop := ∃ T, ac = ⟨T, []⟩ ∧ FW T0 ds vs L T ∧ Wi L T W
end
section
variable {T0 : Array Value} {ds : List (Option Nat)} {vs : List (Option Value)} {Wi : (Nat → Bool) → Array Value → World → Prop} {L : Nat → Bool} {T : Array Value} {W' : World}
theorem FW.put (h : FW T0 ds vs L T) {k s : Nat} {v : Value} (hk : ds[k]? = some (some s)) (hu : uniq ds k s = true) {N : Nat} (hN : T0.size = N) (hs : s < N) (hv : ∀ u, vs[k]? = some (some u) → v = u) (hW : Wi (fun q => q == k || L q) (T.setIfInBounds s v) W') :
    IW T0 ds vs Wi (fun q => q == k || L q) ⟨T.setIfInBounds s v, []⟩ W' := by
  refine ⟨_, rfl, ⟨by simpa using h.size, fun r hr => ?_, fun j r u hl hj hv' => ?_⟩, hW⟩
  · have : s ≠ r := fun e => hr (by rw [← e]; exact List.mem_of_getElem? hk)
    rw [gd_ne this]
    exact h.old r hr
  · by_cases e : j = k
    · subst e
      rw [hk] at hj
      obtain rfl := Option.some.inj (Option.some.inj hj)
      rw [gd_eq (by rw [h.size, hN]; exact hs)]
      exact hv u hv'
    · have hne : s ≠ r := fun e' => e (uniq_of hu (by rw [e']; exact hj))
      rw [gd_ne hne]
      exact h.val j r u (by simpa [e] using hl) hj hv'
theorem FW.pass (h : FW T0 ds vs L T) {k : Nat} (hk : ds[k]? = some none) (hW : Wi (fun q => q == k || L q) T W') : IW T0 ds vs Wi (fun q => q == k || L q) ⟨T, []⟩ W' := by
  refine ⟨_, rfl, ⟨h.size, h.old, fun j r u hl hj hv' => h.val j r u ?_ hj hv'⟩, hW⟩
  by_cases e : j = k
  · subst e; rw [hk] at hj; cases hj
  · simpa [e] using hl
theorem FW.fin (h : FW T0 ds vs L T) (us : List (Nat × Value)) (keys : List Nat) (hkeys : us.map Prod.fst = keys) (hv : ∀ p ∈ us, T.getD p.1 undef = p.2) (hc : (ds.all fun x => match x with | none => true | some s => keys.contains s) = true) : T = upd us T0 := by
  refine upd_eq h.size hv fun s hs => h.old s fun hd => hs ?_
  have := List.all_eq_true.1 hc (some s) hd
  rw [hkeys]
  simpa using this
end
section
variable {P : Program} {ops : Array Oper} {Q : Exit → Act → World → Prop} {T0 : Array Value} {w : World}
theorem region_iw {id : Nat} (ds : List (Option Nat)) (vs : List (Option Value)) (Wi : (Nat → Bool) → Array Value → World → Prop) (hlen : vs.length = ops.size) (hm : P.follows .mixedOrders = true)
    (hlt : ∀ (i : Nat) (o : Oper), ops[i]? = some o → ∀ e ∈ o.after, Region.binds .any e = true → e.on < i)
    (hstep : ∀ T1, T1 = T0 → ∀ (L : Nat → Bool) (T : Array Value) (W : World) (i : Nat) (o : Oper), FW T1 ds vs L T → Wi L T W → ops.toList[i]? = some o → L i = false → (∀ e ∈ o.after, Region.binds .any e = true → L e.on = true) →
      ∀ K : Act → World → Prop, (∀ a' w', IW T1 ds vs Wi (fun j => j == i || L j) a' w' → K a' w') → if Region.wanted o (yielded ops T) = true then Oper.wp P o ⟨T, []⟩ W K Q else K ((⟨T, []⟩ : Act).put o.dst undef) W)
    (hdone : ∀ L T W, FW T0 ds vs L T → Wi L T W → (∀ i, i < ops.size → L i = true) → Q .normal ⟨T, []⟩ W)
    (hstart : Wi (fun j => (Array.replicate ops.size false).getD j true) T0 w.drew) : (Code.region id ops true).wp P Q ⟨T0, []⟩ w := by
  refine region_inv (md := .any) (IW T0 ds vs Wi) hlt ?_ ?_ rfl hm ⟨T0, rfl, ⟨rfl, fun _ _ => rfl, fun k s u hl _ hv => ?_⟩, hstart⟩
  · rintro L a W i o ⟨T, rfl, hF, hW⟩ ho hLi hd K hK
    exact hstep T0 rfl L T W i o hF hW (by rw [Array.getElem?_toList]; exact ho) hLi hd K hK
  · rintro L a W ⟨T, rfl, hF, hW⟩ hall
    exact hdone L T W hF hW hall
  · have hk : k < ops.size := by
      rw [← hlen]
      rcases Nat.lt_or_ge k vs.length with h1 | h1
      · exact h1
      · rw [List.getElem?_eq_none h1] at hv; cases hv
    rw [inv_none hk] at hl
    cases hl
/-! ### One operation -/
variable {o : Oper} {a : Act} {w' : World} {K : Act → World → Prop} {T : Array Value}
theorem st_val {v : Value} (hw : Region.wanted o (yielded ops T) = true) (hrun : (execOp (⟨T, []⟩ : Act).eval o).run P w = .ok (.value v) w') (h : K ((⟨T, []⟩ : Act).put o.dst v) w') :
    if Region.wanted o (yielded ops T) = true then Oper.wp P o ⟨T, []⟩ w K Q else K ((⟨T, []⟩ : Act).put o.dst undef) w := by
  rw [if_pos hw]
  unfold Oper.wp
  rw [hrun]
  exact h
theorem st_do (hw : Region.wanted o (yielded ops T) = true) (hrun : (execOp (⟨T, []⟩ : Act).eval o).run P w = .ok .skip w') (h : K ((⟨T, []⟩ : Act).put o.dst undef) w') :
    if Region.wanted o (yielded ops T) = true then Oper.wp P o ⟨T, []⟩ w K Q else K ((⟨T, []⟩ : Act).put o.dst undef) w := by
  rw [if_pos hw]
  unfold Oper.wp
  rw [hrun]
  exact h
theorem st_no (hw : Region.wanted o (yielded ops T) = false) (h : K ((⟨T, []⟩ : Act).put o.dst undef) w) :
    if Region.wanted o (yielded ops T) = true then Oper.wp P o ⟨T, []⟩ w K Q else K ((⟨T, []⟩ : Act).put o.dst undef) w := by
  rw [if_neg (by rw [hw]; decide)]
  exact h
theorem st_call {f : FuncId} {args : Array Value} {R : Ending → World → Prop} (hw : Region.wanted o (yielded ops T) = true) (hrun : (execOp (⟨T, []⟩ : Act).eval o).run P w = .ok (.enter f args) w') (hc : Calls P f args w' R)
    (h : ∀ r w2, R r w2 → ∃ v, r = .returned v ∧ K ((⟨T, []⟩ : Act).put o.dst v) w2) :
    if Region.wanted o (yielded ops T) = true then Oper.wp P o ⟨T, []⟩ w K Q else K ((⟨T, []⟩ : Act).put o.dst undef) w := by
  rw [if_pos hw]
  unfold Oper.wp
  rw [hrun]
  refine hc.mono fun r w2 hr => ?_
  obtain ⟨v, rfl, hk⟩ := h r w2 hr
  exact hk
theorem want_none (h : o.guard = none) : Region.wanted o (yielded ops T) = true := by unfold Region.wanted; rw [h]
theorem want_some {j s : Nat} {b b' : Bool} (h : o.guard = some (j, b)) (hd : (ops[j]?).bind (·.dst) = some s) (e : T.getD s undef = .bool b') : Region.wanted o (yielded ops T) = (b' == b) := by
  have hs : s < T.size := by
    rcases Nat.lt_or_ge s T.size with h1 | h1
    · exact h1
    · rw [gd_out h1] at e; cases e
  have e2 : T[s]? = some (.bool b') := by
    rw [Array.getElem?_eq_getElem hs]
    simpa [Array.getD_eq_getD_getElem?, Array.getElem?_eq_getElem hs] using e
  unfold Region.wanted
  rw [h]
  unfold yielded
  dsimp only
  rw [hd]
  simp only [Option.bind_some, e2]
  cases b' <;> cases b <;> rfl
end
end
end Go.Proofs.YtbeanjaenmpoeaaDoor
