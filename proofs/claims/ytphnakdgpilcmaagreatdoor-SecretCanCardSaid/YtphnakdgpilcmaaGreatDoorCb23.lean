/- The reference's Had. (printed by wip/gen_sed.py) -/
import Derived.Test.YtphnakdgpilcmaaGreatDoorCb22
import Derived.Test.YtphnakdgpilcmaaGreatDoorCb21
import Derived.Test.YtphnakdgpilcmaaGreatDoorCb11
import Derived.Deep.CutBlock
import Derived.Deep.DeepCutAuto
namespace Go.Proofs.YtphnakdgpilcmaaGreatDoor
open Go.RowKit Go.Maps

theorem slL_run3 (t : TypeId) (ht : Tryz.prog.underlying t = some (.slice (Tryz.prog.elem t))) (hz : ∀ w, (sizeOf (Tryz.prog.elem t)).run Tryz.prog w = .ok 1 w) (A : Option Addr) (n c K : Nat) (hK : K ≤ n) (W : World) :
    (Instr.sliceAt t (.slice A n c) (some (.int .i64 (K : Int))) none none).run Tryz.prog W = .ok (.slice (behind3 A K c) (n - K) (c - K)) W := by
  rw [run_sliceAt_slice (h := ht), run_slice_l (ht := ht) (h0 := by omega) (h1 := by omega), hz]
  simp only [Result.andThen, sliced, Int.toNat_natCast, behind3]
theorem Rws.grown3 {w w' : World} {k n : Nat} {A : Option Addr} {zs : List (List Value)} {row : Option Nat} (h : Rws w k A n zs) (hg : w.grownBy w' row) (hr : ∀ b off, A = some ⟨b, off, none⟩ → 0 < n → row ≠ some b) : Rws w' k A n zs :=
  ⟨h.1, h.2.1, fun hn => by
    obtain ⟨b, off, e, hlt, hc⟩ := h.2.2 hn
    refine ⟨b, off, e, Nat.lt_of_lt_of_le hlt hg.size, fun j z hz i v hv => ?_⟩
    rw [World.cell?_of_block (a := ⟨b, off + j * k + i, none⟩) (hg.block b hlt (fun e' => hr b off e hn e'.symm))]
    exact hc j z hz i v hv⟩
/-- What has been found so far. -/
structure HadS (H0 hs : List Tm) : Prop where
  once : hs.Nodup
  had : ∀ t ∈ hs, Hd H0 t
theorem HadS.nil_ (H0 : List Tm) : HadS H0 [] := ⟨List.nodup_nil, fun _ h => by cases h⟩
theorem HadS.snoc {H0 hs : List Tm} (h : HadS H0 hs) {t : Tm} (ht : t ∉ hs) (hd : Hd H0 t) : HadS H0 (hs ++ [t]) :=
  ⟨by rw [List.nodup_append]; exact ⟨h.once, by simp, fun a ha b hb => by rw [List.mem_singleton.1 hb]; exact fun e => ht (by rw [← e]; exact ha)⟩, fun u hu => by
    rcases List.mem_append.1 hu with hu | hu
    · exact h.had u hu
    · rw [List.mem_singleton.1 hu]; exact hd⟩
theorem encS3_app (l : List Tm) (t : Tm) : encS3 (l ++ [t]) = encS3 l ++ [bs t.enc] := by simp [encS3]
/-- A slice's block is not that of another one. -/
def Sep3 (v : Value) (A : Option Addr) (n : Nat) : Prop := ∀ b off, A = some ⟨b, off, none⟩ → 0 < n → v.ownBlock ≠ some b
theorem had_next {hs hs2 hs3 e2 e3 : List Tm} {i : Nat} {t : Tm} (he2 : hs2 = hs ++ e2) (he3 : hs3 = hs2 ++ e3) (hi : i < hs2.length) (ht : hs2[i]? = some t) (hsp2 : hs2 = hs → ∀ k t, k < i → hs[k]? = some t → SplitD hs t) (hq : hs3 = hs2 → SplitD hs2 t) :
    (∃ e, hs3 = hs ++ e) ∧ i + 1 ≤ hs3.length ∧ (hs3 = hs → ∀ k u, k < i + 1 → hs[k]? = some u → SplitD hs u) := by
  refine ⟨⟨e2 ++ e3, by rw [he3, he2, List.append_assoc]⟩, by rw [he3, List.length_append]; omega, fun h5 => ?_⟩
  have e0 : hs2 = hs := by
    have := congrArg List.length h5
    rw [he3, he2, List.length_append, List.length_append] at this
    rw [he2, List.length_eq_zero_iff.1 (show e2.length = 0 by omega), List.append_nil]
  have h6 := hq (by rw [h5, e0])
  intro k u hk hu
  by_cases ek : k = i
  · subst ek
    rw [e0, hu] at ht
    obtain rfl := Option.some.inj ht
    rw [← e0]; exact h6
  · exact hsp2 e0 k u (by omega) hu
theorem seal_args3 {t : Tm} (hok : t.ok) (h9 : t.kind = 9) : ∃ u v, t.args = [u, v] ∧ u.ok ∧ v.ok := by
  obtain ⟨k, a, b, s, args⟩ := t
  have h9 : k = 9 := h9
  have ho := ok_mk.1 hok
  have ho1 := ho.1
  subst h9
  simp only [okHd, reduceCtorEq, false_and, or_false, false_or, true_and, Nat.reduceEqDiff] at ho1
  have hl : args.length = 2 := by omega
  match args, hl, ho with
  | [u, v], _, ho => exact ⟨u, v, rfl, ho.2.2 u (by simp), ho.2.2 v (by simp)⟩
theorem field4_run (k a b : Int) (s : List UInt8) (A : Option Addr) (n c : Nat) (W : World) : (Instr.field 91 (.agg (rnC k a b s (.slice A n c)).toArray) 4).run Tryz.prog W = .ok (.slice A n c) W := by
  unfold rnC
  kernel_rfl
theorem sep_of {w w' : World} {B : Nat} {v v' : Value} {E : TypeId} {zs ys : List (List Value)} {k j : Nat} {A : Option Addr} {n c : Nat} (h : OwnR w B k E v zs) (h' : OwnR w' w.heap.size j E v' ys) (hv : v' = .slice A n c) : Sep3 v A n := fun b off e hn hq => by
  have h1 := ownBlock_lt h hq
  have h2 := h'.lt b (by rw [hv, e]; rfl)
  omega
/-- What Had leaves. -/
def HadR (H0 : List Tm) (w : World) (r : Ending) (w' : World) : Prop := ∃ v hs, r = .returned v ∧ OwnS w' w.heap.size v (encS3 hs) ∧ Mind H0 hs ∧ Below w.heap.size w w'
/-- What the loops keep. -/
def HadW (H0 : List Tm) (w : World) (v : Value) (hs : List Tm) (wr : World) : Prop := OwnS wr w.heap.size v (encS3 hs) ∧ HadS H0 hs ∧ (∀ t ∈ H0, t ∈ hs) ∧ Below w.heap.size w wr
set_option maxRecDepth 100000 in
set_option maxHeartbeats 8000000 in
theorem rhad_any (os : List (Option Tm)) (lx : List Tm) (B : Option Addr) (nb cb : Nat) (w : World) (hnb : nb ≤ 1000) (H : Strs w B nb (os.map fun o => bs (encO o))) (hlx : ∀ t, Hd (os.filterMap id) t → t ∈ lx) (hxl : lx.length ≤ 100) (hxo : ∀ t ∈ lx, t.ok ∧ t.enc.length ≤ 4000000000) :
    Calls Tryz.prog 19 #[.slice B nb cb] w (HadR (os.filterMap id) w) := by
  obtain ⟨j0, hj0, hj1, hj2, hj3⟩ := info_parts str_info
  have hol : os.length = nb := by have := H.len; simpa using this
  have hH0 : ∀ t, t ∈ os.filterMap id ↔ some t ∈ os := fun t => by
    rw [List.mem_filterMap]
    constructor
    · rintro ⟨o, h1, h2⟩; have h2 : o = some t := h2; rw [← h2]; exact h1
    · exact fun h => ⟨_, h, rfl⟩
  generalize hH : os.filterMap id = H0 at *
  have hbound : ∀ hs, HadS H0 hs → hs.length ≤ 100 ∧ ∀ t ∈ hs, t.ok ∧ t.enc.length ≤ 4000000000 := fun hs h => ⟨Nat.le_trans (nodup_le h.once fun t ht => hlx t (h.had t ht)) hxl, fun t ht => hxo t (hlx t (h.had t ht))⟩
  have hbd := Lib.hid hbound
  have hHd := Lib.hid (fun t (h : Hd H0 t) => hxo t (hlx t h))
  have hH0h := Lib.hid hH0
  have Hh := Lib.hid H
  have holh := Lib.hid hol
  have hO0 : Hid (OwnS w w.heap.size (.slice none 0 0) (encS3 [])) := OwnR.nil_ w w.heap.size 1 9
  have hS0 := Lib.hid (HadS.nil_ H0)
  have hb0 := Lib.hid (Below.refl w.heap.size w)
  have hin0 : Hid (∀ t, some t ∈ os.take 0 → t ∈ ([] : List Tm)) := Lib.hid (fun t h => by simp at h)
  clear H hlx hxl hxo hol hH0 hbound hH
  go_enter Tryz.func19, Tryz.ntmps19
  go_wp2_with fail
  go_loopw [3, 4] (fun v iv wr => ∃ (j : Nat) (hs : List Tm), j ≤ nb ∧ iv = .int .i64 j ∧ Hid (OwnS wr w.heap.size v (encS3 hs)) ∧ Hid (HadS H0 hs) ∧ Hid (∀ t, some t ∈ os.take j → t ∈ hs) ∧ Hid (Below w.heap.size w wr)) (fun _ iv _ => nb - (intOf iv).toNat)
  case atStart => exact ⟨0, [], Nat.zero_le _, rfl, hO0, hS0, hin0, hb0⟩
  case round =>
    clear hO0 hS0 hin0 hb0
    obtain ⟨j, hs, hj, rfl, hO, hS, hin, hb⟩ := hrel
    by_cases hlt : j < nb
    · have hlt' : (j : Int) < (nb : Int) := by omega
      obtain ⟨o, ho⟩ : ∃ o, os[j]? = some o := ⟨os[j]'(by rw [holh.out]; exact hlt), List.getElem?_eq_getElem _⟩
      obtain ⟨b1, o1, xs, rfl, hbl, hxs, hc0⟩ := Hh.out.at_ hlt
      rw [List.getElem?_map, ho] at hxs
      obtain rfl : bs (encO o) = xs := Option.some.inj hxs
      have hcell := (hb.out.cell (p := ⟨b1, o1 + j, none⟩) hbl).trans hc0
      have htk := take_succ_of ho
      have homem := List.mem_of_getElem? ho
      cases o with
      | none =>
        have hin2 := Lib.hid (show ∀ t, some t ∈ os.take (j + 1) → t ∈ hs from fun t h => by
          rw [htk] at h
          rcases List.mem_append.1 h with h | h
          · exact hin.out t h
          · have := List.mem_singleton.1 h; cases this)
        have e0 : bs (encO none) = ⟨#[]⟩ := rfl
        rw [e0] at hcell
        clear hin ho hxs hc0 htk homem e0
        go_wp2_with fail
        go_roundw
        case rel => exact ⟨j + 1, hs, by omega, by go_num, hO, hS, hin2, hb⟩
        case measure => simp [intOf]; omega
      | some t =>
        have ht0 : Hd H0 t := .base ((hH0h.out t).2 homem)
        obtain ⟨hlen, hall⟩ := hbd.out hs hS.out
        obtain ⟨Av, cv, ev, hI⟩ := hO.out.strs
        have hl3 : (encS3 hs).length = hs.length := by simp [encS3]
        rw [hl3] at ev hI
        obtain ⟨q1, hq1⟩ : ∃ q : Bool, (q = true ↔ t ∈ hs) := by classical exact ⟨decide (t ∈ hs), by simp⟩
        have hem : (bs t.enc).toList.isEmpty = false := empty_test
        have cI := Lib.hid (Calls.mono (rin_any (c := cv) (encS3 hs) (bs t.enc) Av hs.length wr (by omega) hI) fun (r : Ending) (W2 : World) ⟨⟨q, h1, h2⟩, h3⟩ => (show r = Ending.returned (.bool q1) ∧ wr = W2 from ⟨by rw [h1, show q = q1 by rw [Bool.eq_iff_iff, h2, hq1, encS3_mem (fun u hu => (hall u hu).1) (hHd.out t ht0).1]], h3⟩))
        replace hcell : wr.cell? ⟨b1, o1 + j, none⟩ = some (.string (bs t.enc)) := hcell
        cases q1 with
        | true =>
          have hin2 := Lib.hid (show ∀ u, some u ∈ os.take (j + 1) → u ∈ hs from fun u h => by
            rw [htk] at h
            rcases List.mem_append.1 h with h | h
            · exact hin.out u h
            · have := List.mem_singleton.1 h; injection this with this; rw [this]; exact hq1.1 rfl)
          subst ev
          generalize bs t.enc = X at *
          clear hin ho hxs hc0 htk homem hq1 hI hall hlen hl3
          go_wp2_with (go_at_call 39; (with_reducible refine cI.out.mono ?_); rintro r w3 ⟨rfl, rfl⟩)
          go_roundw
          case rel => exact ⟨j + 1, hs, by omega, by go_num, hO, hS, hin2, hb⟩
          case measure => simp [intOf]; omega
        | false =>
          have hnot : t ∉ hs := fun h => by have := hq1.2 h; cases this
          have hin2 := Lib.hid (show ∀ u, some u ∈ os.take (j + 1) → u ∈ hs ++ [t] from fun u h => by
            rw [htk] at h
            rcases List.mem_append.1 h with h | h
            · exact List.mem_append_left _ (hin.out u h)
            · have := List.mem_singleton.1 h; injection this with this; rw [this]; simp)
          have hS2 := Lib.hid (hS.out.snoc hnot ht0)
          obtain ⟨A5, c5, zs, ev5, hzl, hOn, hup⟩ := own_next hO.out (bs t.enc)
          rw [hl3] at ev5 hzl
          rw [ev] at ev5
          injection ev5 with e1 _ e3
          subst e1
          subst e3
          have hzb : zs.length ≤ 1000 := by omega
          have hup := Lib.hid (show ∀ W v', OwnR W w.heap.size 1 9 v' (zs ++ [[.string (bs t.enc)]]) → OwnS W w.heap.size v' (encS3 (hs ++ [t])) from fun W v' h => by rw [encS3_app]; exact hup W v' h)
          subst ev
          generalize bs t.enc = X at *
          have hBn := Lib.hid (hb.out.trans ((below_new wr (.cells #[.string X] 9)).mono hb.out.size))
          have hrow := Lib.hid (rangeAt_list (heap_new wr (.cells [Value.string X].toArray 9)))
          replace hOn := Lib.hid hOn
          clear hin ho hxs hc0 htk homem hq1 hI hall hzl hO hnot hS
          generalize hs.length = mv at *
          clear hl3
          go_upto_region 4 with (first
            | (go_at_call 39; (with_reducible refine cI.out.mono ?_); rintro r w3 ⟨rfl, rfl⟩)
            | (at_builtin; refine wpList_append_one rfl _ _ 29 rfl 9 j0 _ 1 16 Tryz.underlying29 hj0 hj1 hj2 hj3 rfl (by decide) w hBn.out _ zs rfl hOn.out _ 1 [.string X] rfl hrow.out rfl (by simp; rfl) (by unfold maxLen; omega) (by omega) ?_; intro v2 w5 hO2 hB2 hg2))
          have hO5 := Lib.hid (hup.out _ _ hO2)
          replace hB2 := Lib.hid hB2
          clear hO2 hup hOn hBn hrow hg2 hcell cI
          go_wp2_with fail
          go_roundw
          case rel => exact ⟨j + 1, hs ++ [t], by omega, by go_num, hO5, hS2, hin2, hB2⟩
          case measure => simp [intOf]; omega
    · have h3 : Hid (∃ hs, HadW H0 w u3 hs wr ∧ (-1 : Int) ≤ hs.length ∧ ((-1 : Int) = hs.length → ∀ t ∈ hs, SplitD hs t)) := by
        refine ⟨hs, ⟨hO.out, hS.out, fun t ht => hin.out t (by rw [List.take_of_length_le (by have := holh.out; omega)]; exact (hH0h.out t).1 ht), hb.out⟩, by omega, fun h => by omega⟩
      clear hO hS hin hb
      go_wp2_with fail
      go_loopw [3, 5] (fun v nv wr => ∃ nn : Int, nv = .int .i64 nn ∧ -1 ≤ nn ∧ Hid (∃ hs, HadW H0 w v hs wr ∧ nn ≤ hs.length ∧ (nn = hs.length → ∀ t ∈ hs, SplitD hs t))) (fun _ nv _ => (101 - intOf nv).toNat)
      case atStart => exact ⟨-1, rfl, by omega, h3⟩
      case round =>
        clear h3
        obtain ⟨nn, rfl, hn1, hr⟩ := hrel
        obtain ⟨hs, hW, hle, hsp⟩ := hr.out
        obtain ⟨hlen, hall⟩ := hbd.out hs hW.2.1
        obtain ⟨Av, cv, ev, hI⟩ := hW.1.strs
        have hl3 : (encS3 hs).length = hs.length := by simp [encS3]
        rw [hl3] at ev hI
        have hWh := Lib.hid hW
        by_cases e : nn = (hs.length : Int)
        · subst e
          have hM := Lib.hid (show HadR H0 w (.returned u3) wr from ⟨u3, hs, rfl, hW.1, ⟨closed_of (hsp rfl), hW.2.2.1, hW.2.1.had, hW.2.1.once⟩, hW.2.2.2⟩)
          subst ev
          clear hW hle hsp hr hall hI hWh
          generalize hs.length = mv at *
          clear hl3
          go_wp2_with fail
          go_ret
          exact hM.out
        · have ef : (nn == (hs.length : Int)) = false := beq_eq_false_iff_ne.2 e
          have hlt9 : nn < (hs.length : Int) := by omega
          have h4 : Hid (∃ hs2, HadW H0 w u3 hs2 wr ∧ (∃ e, hs2 = hs ++ e) ∧ 0 ≤ hs2.length ∧ (hs2 = hs → ∀ k t, k < 0 → hs[k]? = some t → SplitD hs t)) := Lib.hid ⟨hs, hW, ⟨[], by simp⟩, Nat.zero_le _, fun _ k t hk => absurd hk (Nat.not_lt_zero _)⟩
          have et : (nn != (hs.length : Int)) = true := by unfold bne; rw [ef]; rfl
          subst ev
          clear hW hle hsp hr e hall hI hWh hl3
          go_wp2_with fail
          go_loopw [3, 6] (fun v iv wz => ∃ i : Nat, iv = .int .i64 i ∧ Hid (∃ hs2, HadW H0 w v hs2 wz ∧ (∃ e, hs2 = hs ++ e) ∧ i ≤ hs2.length ∧ (hs2 = hs → ∀ k t, k < i → hs[k]? = some t → SplitD hs t))) (fun _ iv _ => 101 - (intOf iv).toNat)
          case atStart => exact ⟨0, rfl, h4⟩
          case round =>
            clear h4
            obtain ⟨i, rfl, hr⟩ := hrel
            obtain ⟨hs2, hW2, ⟨e2, he2⟩, hi2, hsp2⟩ := hr.out
            obtain ⟨hlen2, hall2⟩ := hbd.out hs2 hW2.2.1
            obtain ⟨A2, c2, ev2, hI2⟩ := hW2.1.strs
            have hl2 : (encS3 hs2).length = hs2.length := by simp [encS3]
            rw [hl2] at ev2 hI2
            by_cases hil : i < hs2.length
            · have hil' : (i : Int) < (hs2.length : Int) := by omega
              obtain ⟨t, ht⟩ : ∃ t, hs2[i]? = some t := ⟨hs2[i], List.getElem?_eq_getElem hil⟩
              obtain ⟨hok, htl⟩ := hall2 t (List.mem_of_getElem? ht)
              have htd := hW2.2.1.had t (List.mem_of_getElem? ht)
              obtain ⟨b1, o1, xs, rfl, hbl, hxs, hcell⟩ := hI2.at_ hil
              have hxe : bs t.enc = xs := by
                unfold encS3 at hxs
                rw [List.getElem?_map, ht] at hxs
                exact Option.some.inj hxs
              subst hxe
              have cK := rKind_any (some t) (fun u h => by obtain rfl := Option.some.inj h; exact hok) htl
              rw [show kindO (some t) = t.kind from rfl, show encO (some t) = t.enc from rfl] at cK
              have cV := rView_own t hok htl wr
              have hW2h := Lib.hid hW2
              have he2h := Lib.hid he2
              have hilh := Lib.hid hil
              have hth := Lib.hid ht
              have hsp2h := Lib.hid hsp2
              have hI2h := Lib.hid hI2
              have hcan := Lib.hid (fun (W : World) (hb : Below wr.heap.size wr W) (u : Tm) (hu : u.ok) (hul : u.enc.length ≤ 4000000000) => rcan_all hs2 (some ⟨b1, o1, none⟩) hs2.length c2 (by omega) hall2 u hu hul W (hI2.keep hb))
              by_cases hk : t.kind = 10
              · obtain ⟨k0, a, b, s, args⟩ := t
                have hk : k0 = 10 := hk
                subst hk
                have hm32 : args.length ≤ 32 := by
                  have := (ok_mk.1 hok).1; unfold okHd at this; omega
                have hadd := Lib.hid (show ∀ u ∈ args, Hd H0 u from fun u hu => .part htd rfl hu)
                have hsdh := Lib.hid (show ∀ l : List Tm, (∀ u ∈ args, u ∈ l) → SplitD l (.mk 10 a b s args) from fun l h => ⟨fun _ u hu => h u hu, fun h => (by cases h)⟩)
                have hfl := Lib.hid (fun (A : Option Addr) (c : Nat) (W : World) => field4_run 10 a b s A args.length c W)
                simp only [Tm.kind, Tm.a, Tm.b, Tm.s, Tm.args] at cV cK
                have cV := Lib.hid (show Calls Tryz.prog 41 #[.string (bs (Tm.mk 10 a b s args).enc)] wr fun r w' => ∃ (A : Option Addr) (c : Nat), r = .returned (.agg (rnC 10 a b s (.slice A args.length c)).toArray) ∧ Strs w' A args.length (encS3 args) ∧ Below wr.heap.size wr w' ∧ OwnS w' wr.heap.size (.slice A args.length c) (encS3 args) from cV)
                have cK : ∀ (W : World), Calls Tryz.prog 40 #[.string (bs (Tm.mk 10 a b s args).enc)] W fun r w' => r = .returned (.int .i64 10) ∧ W = w' := cK
                generalize bs (Tm.mk 10 a b s args).enc = X at *
                replace cK := Lib.hid cK
                clear hW2 he2 hsp2 hr ht hi2 hok htl htd hxs hI2 hall2 hcan
                subst ev2
                go_upto_region 16 with (first
                  | (go_at_call 40; (with_reducible refine (cK.out _).mono ?_); rintro r w3 ⟨rfl, rfl⟩)
                  | (go_at_call 41; (with_reducible refine cV.out.mono ?_); rintro r w3 ⟨Ag, cg, rfl, hSg, hb3, hOg⟩
                     have hf4 := hfl.out Ag cg))
                have hstart : Hid (∃ hs3, HadW H0 w (.slice (some ⟨b1, o1, none⟩) hs2.length c2) hs3 w3 ∧ (∃ e, hs3 = hs2 ++ e) ∧ (∀ u ∈ args.take 0, u ∈ hs3) ∧ Strs w3 Ag args.length (encS3 args) ∧ Sep3 (.slice (some ⟨b1, o1, none⟩) hs2.length c2) Ag args.length) := Lib.hid ⟨hs2, ⟨OwnS.keep hW2h.out.1 hb3, hW2h.out.2.1, hW2h.out.2.2.1, hW2h.out.2.2.2.trans (hb3.mono hW2h.out.2.2.2.size)⟩, ⟨[], by simp⟩, fun u hu => (by simp at hu), hSg, sep_of hW2h.out.1 hOg rfl⟩
                clear hSg hOg hb3 cV cK hfl hf4
                have h0 : Hid (∃ hs3, HadW H0 w (.slice (some ⟨b1, o1, none⟩) hs2.length c2) hs3 w3 ∧ (∃ e, hs3 = hs2 ++ e) ∧ (∀ u ∈ (args).take 0, u ∈ hs3) ∧ Strs w3 Ag args.length (encS3 args) ∧ Sep3 (.slice (some ⟨b1, o1, none⟩) hs2.length c2) Ag args.length) := hstart
                clear hstart
                go_wp2_with fail
                go_loopw [3, 9] (fun v kv wz => ∃ k : Nat, k ≤ args.length ∧ kv = .int .i64 k ∧ Hid (∃ hs3, HadW H0 w v hs3 wz ∧ (∃ e, hs3 = hs2 ++ e) ∧ (∀ u ∈ (args).take k, u ∈ hs3) ∧ Strs wz Ag args.length (encS3 args) ∧ Sep3 v Ag args.length)) (fun _ kv _ => args.length - (intOf kv).toNat)
                case atStart => exact ⟨0, Nat.zero_le _, rfl, h0⟩
                case round =>
                  clear h0
                  obtain ⟨k, hk, rfl, hr4⟩ := hrel
                  obtain ⟨hs3, hW3, he3, hin3, hSa, hsep⟩ := hr4.out
                  by_cases hlk : k < args.length
                  · have hlk' : (k : Int) < (args.length : Int) := by omega
                    obtain ⟨u, hu⟩ : ∃ u, (args)[k]? = some u := ⟨(args)[k]'(by first | exact hlk | (simp; omega)), List.getElem?_eq_getElem _⟩
                    have hud := hadd.out u (List.mem_of_getElem? hu)
                    obtain ⟨b4, o4, xs, eA, hbl4, hxs, hc4⟩ := hSa.at_ hlk
                    have hxe : bs u.enc = xs := by
                      unfold encS3 at hxs
                      rw [List.getElem?_map, hu] at hxs
                      exact Option.some.inj hxs
                    subst hxe
                    have htk := take_succ_of hu
                    obtain ⟨hlen3, hall3⟩ := hbd.out hs3 hW3.2.1
                    obtain ⟨A3, c3, ev3, hI3⟩ := hW3.1.strs
                    have hl3 : (encS3 hs3).length = hs3.length := by simp [encS3]
                    rw [hl3] at ev3 hI3
                    obtain ⟨q1, hq1⟩ : ∃ q : Bool, (q = true ↔ u ∈ hs3) := by classical exact ⟨decide (u ∈ hs3), by simp⟩
                    have cI := Lib.hid (Calls.mono (rin_any (c := c3) (encS3 hs3) (bs u.enc) A3 hs3.length wr (by omega) hI3) fun (r : Ending) (W2 : World) ⟨⟨q, h1, h2⟩, h3⟩ => (show r = Ending.returned (.bool q1) ∧ wr = W2 from ⟨by rw [h1, show q = q1 by rw [Bool.eq_iff_iff, h2, hq1, encS3_mem (fun u hu => (hall3 u hu).1) (hHd.out u hud).1]], h3⟩))
                    cases q1 with
                    | true =>
                      have hnx : Hid (∃ hs3, HadW H0 w u3 hs3 wr ∧ (∃ e, hs3 = hs2 ++ e) ∧ (∀ u ∈ (args).take (k + 1), u ∈ hs3) ∧ Strs wr Ag args.length (encS3 args) ∧ Sep3 u3 Ag args.length) := ⟨hs3, hW3, he3, fun v hv => by
                        rw [htk] at hv
                        rcases List.mem_append.1 hv with hv | hv
                        · exact hin3 v hv
                        · rw [List.mem_singleton.1 hv]; exact hq1.1 rfl, hSa, hsep⟩
                      subst ev3
                      subst eA
                      generalize bs u.enc = X at *
                      clear hr4 hW3 he3 hin3 hSa hsep hxs hu hud htk hall3 hlen3 hl3 hI3 hq1
                      go_wp2_with (go_at_call 39; (with_reducible refine cI.out.mono ?_); rintro r w8 ⟨rfl, rfl⟩)
                      go_roundw
                      case rel => exact ⟨k + 1, by omega, by go_num, hnx⟩
                      case measure => simp [intOf]; omega
                    | false =>
                      have hnot : u ∉ hs3 := fun h => by have := hq1.2 h; cases this
                      obtain ⟨A5, c5, zs, ev5, hzl, hOn, hup⟩ := own_next hW3.1 (bs u.enc)
                      rw [hl3] at ev5 hzl
                      rw [ev3] at ev5
                      injection ev5 with e1 _ e3
                      subst e1
                      subst e3
                      have hzb : zs.length ≤ 1000 := by omega
                      have hup' : ∀ W v', OwnR W w.heap.size 1 9 v' (zs ++ [[.string (bs u.enc)]]) → OwnS W w.heap.size v' (encS3 (hs3 ++ [u])) := fun W v' h => by rw [encS3_app]; exact hup W v' h
                      have hbn := below_new wr (.cells #[.string (bs u.enc)] 9)
                      have hBn := hW3.2.2.2.trans (hbn.mono hW3.2.2.2.size)
                      have hSan := hSa.keep hbn
                      have hnx := Lib.hid (show ∀ w9 v9, OwnR w9 w.heap.size 1 9 v9 (zs ++ [[.string (bs u.enc)]]) → (wr.alloc (.cells #[.string (bs u.enc)] 9)).grownBy w9 u3.ownBlock → (v9.ownBlock = u3.ownBlock ∨ v9.ownBlock = some (wr.alloc (.cells #[.string (bs u.enc)] 9)).heap.size) →
                          (∃ hs3, HadW H0 w v9 hs3 w9 ∧ (∃ e, hs3 = hs2 ++ e) ∧ (∀ u ∈ (args).take (k + 1), u ∈ hs3) ∧ Strs w9 Ag args.length (encS3 args) ∧ Sep3 v9 Ag args.length) from fun w9 v9 hO9 hg9 hat9 => by
                        refine ⟨hs3 ++ [u], ⟨hup' _ _ hO9, hW3.2.1.snoc hnot hud, fun t ht => List.mem_append_left _ (hW3.2.2.1 t ht), hBn.grown hg9 hBn.size (fun q hq => (hOn.1.lt q hq).1)⟩, ?_, fun v hv => ?_, Rws.grown3 hSan hg9 hsep, fun b off e hn hq => ?_⟩
                        · obtain ⟨e, he⟩ := he3
                          exact ⟨e ++ [u], by rw [he, List.append_assoc]⟩
                        · rw [htk] at hv
                          rcases List.mem_append.1 hv with hv | hv
                          · exact List.mem_append_left _ (hin3 v hv)
                          · rw [List.mem_singleton.1 hv]; simp
                        · rcases hat9 with h | h
                          · rw [h] at hq; exact hsep b off e hn hq
                          · rw [h] at hq
                            injection hq with hq
                            rw [eA] at e
                            injection e with e
                            injection e with e1 _ _
                            have := hbn.size
                            omega)
                      subst ev3
                      subst eA
                      have hrow := Lib.hid (rangeAt_list (heap_new wr (.cells [Value.string (bs u.enc)].toArray 9)))
                      have hsz := Lib.hid hBn.size
                      replace hOn := Lib.hid hOn
                      generalize bs u.enc = X at *
                      clear hr4 hW3 he3 hin3 hSa hsep hxs hu hud htk hall3 hI3 hq1 hzl hnot hup hup' hbn hBn hSan
                      generalize hs3.length = mv at *
                      clear hl3
                      go_upto_region 21 with (first
                        | (go_at_call 39; (with_reducible refine cI.out.mono ?_); rintro r w8 ⟨rfl, rfl⟩)
                        | (at_builtin; refine wpList_append_one_at rfl _ _ 29 rfl 9 j0 _ 1 16 Tryz.underlying29 hj0 hj1 hj2 hj3 rfl (by decide) w.heap.size hsz.out _ zs rfl hOn.out _ 1 [.string X] rfl hrow.out rfl (by simp; rfl) (by unfold maxLen; omega) (by omega) ?_; intro v9 w9 hO9 hg9 hat9))
                      have hnx9 := Lib.hid (hnx.out w9 v9 hO9 hg9 hat9)
                      clear hO9 hg9 hat9 hnx hOn hrow hsz cI hc4
                      go_wp2_with fail
                      go_roundw
                      case rel => exact ⟨k + 1, by omega, by go_num, hnx9⟩
                      case measure => simp [intOf]; omega
                  · have hall4 := Lib.hid (show ∀ u ∈ (args), u ∈ hs3 by
                      rwa [List.take_of_length_le (by first | omega | (simp; omega))] at hin3)
                    obtain ⟨e3, he3'⟩ := he3
                    have hfin := Lib.hid (had_next he2h.out he3' hilh.out hth.out hsp2h.out (fun e => hsdh.out _ (by rw [← e]; exact hall4.out)))
                    have hW3h := Lib.hid hW3
                    clear hr4 hW3 he3' hin3 hSa hsep
                    go_wp2_with fail
                    go_roundw
                    case rel => exact ⟨i + 1, by go_num, Lib.hid ⟨hs3, hW3h.out, hfin.out⟩⟩
                    case measure => simp [intOf]; omega
              · by_cases hk9 : t.kind = 9
                · obtain ⟨k0, c0, hag, hkok, hcok⟩ := seal_args3 hok hk9
                  have hadd := Lib.hid (show der hs2 k0 → ∀ u ∈ [c0], Hd H0 u from fun hd u hu => by rw [List.mem_singleton.1 hu]; exact .opn hs2 htd hk9 hag hW2.2.1.had hd)
                  have hsdh := Lib.hid (show ∀ l : List Tm, (∀ u ∈ [c0], u ∈ l) → SplitD l t from fun l h => ⟨fun h => (by rw [hk9] at h; cases h), fun _ k c e _ => (by rw [hag] at e; injection e with _ e; injection e with e _; rw [← e]; exact h c0 (by simp))⟩)
                  have hsdn := Lib.hid (show ¬ der hs2 k0 → SplitD hs2 t from fun hd => ⟨fun h => (by rw [hk9] at h; cases h), fun _ k c e hk => (by rw [hag] at e; injection e with e _; rw [← e] at hk; exact absurd hk hd)⟩)
                  have hkl : k0.enc.length ≤ 4000000000 := Nat.le_trans (enc_arg_le (t := t) (by rw [hag]; simp)) htl
                  have hcd : c0.ok := hcok
                  rw [hk9, hag] at cV
                  rw [hk9] at cK
                  generalize t.a = a at *
                  generalize t.b = b at *
                  generalize t.s = s at *
                  have hfl := Lib.hid (fun (A : Option Addr) (c : Nat) (W : World) => field4_run 9 a b s A 2 c W)
                  have cV := Lib.hid (show Calls Tryz.prog 41 #[.string (bs t.enc)] wr fun r w' => ∃ (A : Option Addr) (c : Nat), r = .returned (.agg (rnC 9 a b s (.slice A 2 c)).toArray) ∧ Strs w' A 2 (encS3 [k0, c0]) ∧ Below wr.heap.size wr w' ∧ OwnS w' wr.heap.size (.slice A 2 c) (encS3 [k0, c0]) from cV)
                  have cK : ∀ (W : World), Calls Tryz.prog 40 #[.string (bs t.enc)] W fun r w' => r = .returned (.int .i64 9) ∧ W = w' := cK
                  obtain ⟨qc, hqc⟩ : ∃ q : Bool, (q = true ↔ c0 ∈ hs2) := by classical exact ⟨decide (c0 ∈ hs2), by simp⟩
                  have cI := fun (W : World) (hb : Below wr.heap.size wr W) => Calls.mono (rin_any (c := c2) (encS3 hs2) (bs c0.enc) (some ⟨b1, o1, none⟩) hs2.length W (by omega) (hI2.keep hb)) fun (r : Ending) (W2 : World) ⟨⟨q, h1, h2⟩, h3⟩ => (show r = Ending.returned (.bool qc) ∧ W = W2 from ⟨by rw [h1, show q = qc by rw [Bool.eq_iff_iff, h2, hqc, encS3_mem (fun u hu => (hall2 u hu).1) hcd]], h3⟩)
                  obtain ⟨qk, hqk⟩ : ∃ q : Bool, (q = true ↔ der hs2 k0) := by classical exact ⟨decide (der hs2 k0), by simp⟩
                  have cC := fun (W : World) (hb : Below wr.heap.size wr W) => Calls.mono (hcan.out W hb k0 hkok hkl) fun (r : Ending) (W2 : World) ⟨q, h1, h2, h3⟩ => (show r = Ending.returned (.bool qk) ∧ Below W.heap.size W W2 from ⟨by rw [h1, show q = qk by rw [Bool.eq_iff_iff, h2, hqk]], h3⟩)
                  have hcell2 := hcell
                  generalize bs t.enc = X at *
                  generalize hY1 : bs c0.enc = Y1 at *
                  generalize hY0 : bs k0.enc = Y0 at *
                  have hes : encS3 [k0, c0] = [Y0, Y1] := by rw [← hY0, ← hY1]; rfl
                  have hec : encS3 [c0] = [Y1] := by rw [← hY1]; rfl
                  replace hec := Lib.hid hec
                  rw [hes] at cV
                  replace cK := Lib.hid cK
                  replace cI := Lib.hid cI
                  replace cC := Lib.hid cC
                  clear hW2 he2 hsp2 hr ht hi2 hok htl htd hxs hI2 hall2 hcan hk hk9 hag hkok hcok hcd hkl hY0 hY1 hes hcell2
                  subst ev2
                  go_upto_region 17 with (first
                    | (go_at_call 40; (with_reducible refine (cK.out _).mono ?_); rintro r w3 ⟨rfl, rfl⟩)
                    | (go_at_call 41; (with_reducible refine cV.out.mono ?_); rintro r w3 ⟨Ag, cg, rfl, hSg, hb3, hOg⟩
                       have hf4 := hfl.out Ag cg))
                  obtain ⟨bA, offA, x0, rfl, hbA, hx0, hcA⟩ := hSg.at_ (show 0 < 2 by decide)
                  obtain ⟨bB, offB, x1, eB, hbB, hx1, hcB⟩ := hSg.at_ (show 1 < 2 by decide)
                  injection eB with eB
                  injection eB with eb1 eb2 _
                  subst eb1 eb2
                  obtain rfl : Y0 = x0 := Option.some.inj hx0
                  obtain rfl : Y1 = x1 := Option.some.inj hx1
                  rw [Nat.add_zero] at hcA
                  have hcap := OwnR.cap3 hOg
                  have cI := Lib.hid (cI.out w3 hb3)
                  have cC := Lib.hid (cC.out w3 hb3)
                  have hb3h := Lib.hid hb3
                  have hOgh := Lib.hid hOg
                  have hSgh := Lib.hid hSg
                  clear hSg hOg hb3 cV cK hfl hf4 hx0 hx1
                  cases qc with
                  | true =>
                    have hfin := Lib.hid (had_next he2h.out (show hs2 = hs2 ++ [] by simp) hilh.out hth.out hsp2h.out (fun _ => hsdh.out hs2 (fun u hu => by rw [List.mem_singleton.1 hu]; exact hqc.1 rfl)))
                    have hW3 := Lib.hid (show HadW H0 w (.slice (some ⟨b1, o1, none⟩) hs2.length c2) hs2 w3 from ⟨OwnS.keep hW2h.out.1 hb3h.out, hW2h.out.2.1, hW2h.out.2.2.1, hW2h.out.2.2.2.trans (hb3h.out.mono hW2h.out.2.2.2.size)⟩)
                    clear hqc hqk
                    go_wp2_with (go_at_call 39; (with_reducible refine cI.out.mono ?_); rintro r w4 ⟨rfl, rfl⟩)
                    go_roundw
                    case rel => exact ⟨i + 1, by go_num, Lib.hid ⟨hs2, hW3.out, hfin.out⟩⟩
                    case measure => simp [intOf]; omega
                  | false =>
                    cases qk with
                    | false =>
                      have hfin := Lib.hid (had_next he2h.out (show hs2 = hs2 ++ [] by simp) hilh.out hth.out hsp2h.out (fun _ => hsdn.out (fun h => by have := hqk.2 h; cases this)))
                      clear hqc hqk
                      go_wp2_with (first
                        | (go_at_call 39; (with_reducible refine cI.out.mono ?_); rintro r w4 ⟨rfl, rfl⟩)
                        | (go_at_call 22; (with_reducible refine cC.out.mono ?_); rintro r w4 ⟨rfl, hb4⟩
                           have hW4 := Lib.hid (show HadW H0 w (.slice (some ⟨b1, o1, none⟩) hs2.length c2) hs2 w4 from ⟨OwnS.keep (OwnS.keep hW2h.out.1 hb3h.out) hb4, hW2h.out.2.1, hW2h.out.2.2.1, hW2h.out.2.2.2.trans ((hb3h.out.trans (hb4.mono hb3h.out.size)).mono hW2h.out.2.2.2.size)⟩)
                           clear hb4))
                      go_roundw
                      case rel => exact ⟨i + 1, by go_num, Lib.hid ⟨hs2, hW4.out, hfin.out⟩⟩
                      case measure => simp [intOf]; omega
                    | true =>
                      have hadd := Lib.hid (hadd.out (hqk.1 rfl))
                      have hs8 := slL_run3 29 u_strs3 z_strs3 (some ⟨bA, offA, none⟩) 2 cg 1 (by decide)
                      have hs8 : ∀ W : World, (Instr.sliceAt 29 (.slice (some ⟨bA, offA, none⟩) 2 cg) (some (.int .i64 1)) none none).run Tryz.prog W = .ok (.slice (behind3 (some ⟨bA, offA, none⟩) 1 cg) 1 (cg - 1)) W := hs8
                      have hSub := fun (W : World) (hb : Below w3.heap.size w3 W) => (show Strs W (behind3 (some ⟨bA, offA, none⟩) 1 cg) 1 (encS3 [c0]) by
                        have := Rws.sub3 (lo := 1) (hi := 2) (hSgh.out.keep hb) hcap (Nat.le_refl 2)
                        rw [hec.out]
                        exact this)
                      have hSepb : Sep3 (.slice (some ⟨b1, o1, none⟩) hs2.length c2) (behind3 (some ⟨bA, offA, none⟩) 1 cg) 1 := fun b off e hn hq => by
                        have h1 := sep_of hW2h.out.1 hOgh.out rfl
                        refine h1 bA offA rfl (by decide) ?_
                        have : b = bA := by
                          unfold behind3 at e
                          split at e
                          · injection e with e; injection e with e _ _; exact e.symm
                          · simp [Addr.add] at e; exact e.1.symm
                        rw [← this]; exact hq
                      have hSubh := Lib.hid hSub
                      have hSepbh := Lib.hid hSepb
                      have hec' := hec
                      clear hqc hqk hSub hSepb
                      go_upto_region 19 with (first
                        | (go_at_call 39; (with_reducible refine cI.out.mono ?_); rintro r w4 ⟨rfl, rfl⟩)
                        | (go_at_call 22; (with_reducible refine cC.out.mono ?_); rintro r w4 ⟨rfl, hb4⟩; replace hb4 := Lib.hid hb4))
                      have hstart : Hid (∃ hs3, HadW H0 w (.slice (some ⟨b1, o1, none⟩) hs2.length c2) hs3 w4 ∧ (∃ e, hs3 = hs2 ++ e) ∧ (∀ u ∈ ([c0]).take 0, u ∈ hs3) ∧ Strs w4 (behind3 (some ⟨bA, offA, none⟩) 1 cg) 1 (encS3 [c0]) ∧ Sep3 (.slice (some ⟨b1, o1, none⟩) hs2.length c2) (behind3 (some ⟨bA, offA, none⟩) 1 cg) 1) := Lib.hid ⟨hs2, ⟨OwnS.keep (OwnS.keep hW2h.out.1 hb3h.out) hb4.out, hW2h.out.2.1, hW2h.out.2.2.1, hW2h.out.2.2.2.trans ((hb3h.out.trans (hb4.out.mono hb3h.out.size)).mono hW2h.out.2.2.2.size)⟩, ⟨[], by simp⟩, fun u hu => (by simp at hu), hSubh.out w4 hb4.out, hSepbh.out⟩
                      clear hb4 hSubh hSepbh cI cC hs8 hcap hcA hcB hb3h hOgh hSgh hsdn hec' hec
                      have h0 : Hid (∃ hs3, HadW H0 w (.slice (some ⟨b1, o1, none⟩) hs2.length c2) hs3 w4 ∧ (∃ e, hs3 = hs2 ++ e) ∧ (∀ u ∈ ([c0]).take 0, u ∈ hs3) ∧ Strs w4 (behind3 (some ⟨bA, offA, none⟩) 1 cg) 1 (encS3 [c0]) ∧ Sep3 (.slice (some ⟨b1, o1, none⟩) hs2.length c2) (behind3 (some ⟨bA, offA, none⟩) 1 cg) 1) := hstart
                      clear hstart
                      go_wp2_with fail
                      go_loopw [3, 9] (fun v kv wz => ∃ k : Nat, k ≤ 1 ∧ kv = .int .i64 k ∧ Hid (∃ hs3, HadW H0 w v hs3 wz ∧ (∃ e, hs3 = hs2 ++ e) ∧ (∀ u ∈ ([c0]).take k, u ∈ hs3) ∧ Strs wz (behind3 (some ⟨bA, offA, none⟩) 1 cg) 1 (encS3 [c0]) ∧ Sep3 v (behind3 (some ⟨bA, offA, none⟩) 1 cg) 1)) (fun _ kv _ => 1 - (intOf kv).toNat)
                      case atStart => exact ⟨0, Nat.zero_le _, rfl, h0⟩
                      case round =>
                        clear h0
                        obtain ⟨k, hk, rfl, hr4⟩ := hrel
                        obtain ⟨hs3, hW3, he3, hin3, hSa, hsep⟩ := hr4.out
                        by_cases hlk : k < 1
                        · have hlk' : (k : Int) < (1 : Int) := by omega
                          obtain ⟨u, hu⟩ : ∃ u, ([c0])[k]? = some u := ⟨([c0])[k]'(by first | exact hlk | (simp; omega)), List.getElem?_eq_getElem _⟩
                          have hud := hadd.out u (List.mem_of_getElem? hu)
                          obtain ⟨b4, o4, xs, eA, hbl4, hxs, hc4⟩ := hSa.at_ hlk
                          have hxe : bs u.enc = xs := by
                            unfold encS3 at hxs
                            rw [List.getElem?_map, hu] at hxs
                            exact Option.some.inj hxs
                          subst hxe
                          have htk := take_succ_of hu
                          obtain ⟨hlen3, hall3⟩ := hbd.out hs3 hW3.2.1
                          obtain ⟨A3, c3, ev3, hI3⟩ := hW3.1.strs
                          have hl3 : (encS3 hs3).length = hs3.length := by simp [encS3]
                          rw [hl3] at ev3 hI3
                          obtain ⟨q1, hq1⟩ : ∃ q : Bool, (q = true ↔ u ∈ hs3) := by classical exact ⟨decide (u ∈ hs3), by simp⟩
                          have cI := Lib.hid (Calls.mono (rin_any (c := c3) (encS3 hs3) (bs u.enc) A3 hs3.length wr (by omega) hI3) fun (r : Ending) (W2 : World) ⟨⟨q, h1, h2⟩, h3⟩ => (show r = Ending.returned (.bool q1) ∧ wr = W2 from ⟨by rw [h1, show q = q1 by rw [Bool.eq_iff_iff, h2, hq1, encS3_mem (fun u hu => (hall3 u hu).1) (hHd.out u hud).1]], h3⟩))
                          cases q1 with
                          | true =>
                            have hnx : Hid (∃ hs3, HadW H0 w u3 hs3 wr ∧ (∃ e, hs3 = hs2 ++ e) ∧ (∀ u ∈ ([c0]).take (k + 1), u ∈ hs3) ∧ Strs wr (behind3 (some ⟨bA, offA, none⟩) 1 cg) 1 (encS3 [c0]) ∧ Sep3 u3 (behind3 (some ⟨bA, offA, none⟩) 1 cg) 1) := ⟨hs3, hW3, he3, fun v hv => by
                              rw [htk] at hv
                              rcases List.mem_append.1 hv with hv | hv
                              · exact hin3 v hv
                              · rw [List.mem_singleton.1 hv]; exact hq1.1 rfl, hSa, hsep⟩
                            subst ev3
                            rw [eA] at *
                            generalize bs u.enc = X at *
                            clear hr4 hW3 he3 hin3 hSa hsep hxs hu hud htk hall3 hlen3 hl3 hI3 hq1
                            go_wp2_with (go_at_call 39; (with_reducible refine cI.out.mono ?_); rintro r w8 ⟨rfl, rfl⟩)
                            go_roundw
                            case rel => exact ⟨k + 1, by omega, by go_num, hnx⟩
                            case measure => simp [intOf]; omega
                          | false =>
                            have hnot : u ∉ hs3 := fun h => by have := hq1.2 h; cases this
                            obtain ⟨A5, c5, zs, ev5, hzl, hOn, hup⟩ := own_next hW3.1 (bs u.enc)
                            rw [hl3] at ev5 hzl
                            rw [ev3] at ev5
                            injection ev5 with e1 _ e3
                            subst e1
                            subst e3
                            have hzb : zs.length ≤ 1000 := by omega
                            have hup' : ∀ W v', OwnR W w.heap.size 1 9 v' (zs ++ [[.string (bs u.enc)]]) → OwnS W w.heap.size v' (encS3 (hs3 ++ [u])) := fun W v' h => by rw [encS3_app]; exact hup W v' h
                            have hbn := below_new wr (.cells #[.string (bs u.enc)] 9)
                            have hBn := hW3.2.2.2.trans (hbn.mono hW3.2.2.2.size)
                            have hSan := hSa.keep hbn
                            have hnx := Lib.hid (show ∀ w9 v9, OwnR w9 w.heap.size 1 9 v9 (zs ++ [[.string (bs u.enc)]]) → (wr.alloc (.cells #[.string (bs u.enc)] 9)).grownBy w9 u3.ownBlock → (v9.ownBlock = u3.ownBlock ∨ v9.ownBlock = some (wr.alloc (.cells #[.string (bs u.enc)] 9)).heap.size) →
                                (∃ hs3, HadW H0 w v9 hs3 w9 ∧ (∃ e, hs3 = hs2 ++ e) ∧ (∀ u ∈ ([c0]).take (k + 1), u ∈ hs3) ∧ Strs w9 (behind3 (some ⟨bA, offA, none⟩) 1 cg) 1 (encS3 [c0]) ∧ Sep3 v9 (behind3 (some ⟨bA, offA, none⟩) 1 cg) 1) from fun w9 v9 hO9 hg9 hat9 => by
                              refine ⟨hs3 ++ [u], ⟨hup' _ _ hO9, hW3.2.1.snoc hnot hud, fun t ht => List.mem_append_left _ (hW3.2.2.1 t ht), hBn.grown hg9 hBn.size (fun q hq => (hOn.1.lt q hq).1)⟩, ?_, fun v hv => ?_, Rws.grown3 hSan hg9 hsep, fun b off e hn hq => ?_⟩
                              · obtain ⟨e, he⟩ := he3
                                exact ⟨e ++ [u], by rw [he, List.append_assoc]⟩
                              · rw [htk] at hv
                                rcases List.mem_append.1 hv with hv | hv
                                · exact List.mem_append_left _ (hin3 v hv)
                                · rw [List.mem_singleton.1 hv]; simp
                              · rcases hat9 with h | h
                                · rw [h] at hq; exact hsep b off e hn hq
                                · rw [h] at hq
                                  injection hq with hq
                                  rw [eA] at e
                                  injection e with e
                                  injection e with e1 _ _
                                  have := hbn.size
                                  omega)
                            subst ev3
                            rw [eA] at *
                            have hrow := Lib.hid (rangeAt_list (heap_new wr (.cells [Value.string (bs u.enc)].toArray 9)))
                            have hsz := Lib.hid hBn.size
                            replace hOn := Lib.hid hOn
                            generalize bs u.enc = X at *
                            clear hr4 hW3 he3 hin3 hSa hsep hxs hu hud htk hall3 hI3 hq1 hzl hnot hup hup' hbn hBn hSan
                            generalize hs3.length = mv at *
                            clear hl3
                            go_upto_region 21 with (first
                              | (go_at_call 39; (with_reducible refine cI.out.mono ?_); rintro r w8 ⟨rfl, rfl⟩)
                              | (at_builtin; refine wpList_append_one_at rfl _ _ 29 rfl 9 j0 _ 1 16 Tryz.underlying29 hj0 hj1 hj2 hj3 rfl (by decide) w.heap.size hsz.out _ zs rfl hOn.out _ 1 [.string X] rfl hrow.out rfl (by simp; rfl) (by unfold maxLen; omega) (by omega) ?_; intro v9 w9 hO9 hg9 hat9))
                            have hnx9 := Lib.hid (hnx.out w9 v9 hO9 hg9 hat9)
                            clear hO9 hg9 hat9 hnx hOn hrow hsz cI hc4
                            go_wp2_with fail
                            go_roundw
                            case rel => exact ⟨k + 1, by omega, by go_num, hnx9⟩
                            case measure => simp [intOf]; omega
                        · have hall4 := Lib.hid (show ∀ u ∈ ([c0]), u ∈ hs3 by
                            rwa [List.take_of_length_le (by first | omega | (simp; omega))] at hin3)
                          obtain ⟨e3, he3'⟩ := he3
                          have hfin := Lib.hid (had_next he2h.out he3' hilh.out hth.out hsp2h.out (fun e => hsdh.out _ (by rw [← e]; exact hall4.out)))
                          have hW3h := Lib.hid hW3
                          clear hr4 hW3 he3' hin3 hSa hsep
                          go_wp2_with fail
                          go_roundw
                          case rel => exact ⟨i + 1, by go_num, Lib.hid ⟨hs3, hW3h.out, hfin.out⟩⟩
                          case measure => simp [intOf]; omega
                · have k9 : ((t.kind : Int) == 9) = false := by rw [beq_eq_false_iff_ne]; omega
                  have k10 : ((t.kind : Int) == 10) = false := by rw [beq_eq_false_iff_ne]; omega
                  have n9 : ((t.kind : Int) != 9) = true := by unfold bne; rw [k9]; rfl
                  have n10 : ((t.kind : Int) != 10) = true := by unfold bne; rw [k10]; rfl
                  have hfin := Lib.hid (had_next he2 (show hs2 = hs2 ++ [] by simp) hil ht hsp2 (fun _ => ⟨fun h => absurd h hk, fun h => absurd h hk9⟩))
                  have cK : ∀ (W : World), Calls Tryz.prog 40 #[.string (bs t.enc)] W fun r w' => r = .returned (.int .i64 (t.kind : Int)) ∧ W = w' := cK
                  generalize t.kind = kk at *
                  generalize bs t.enc = X at *
                  replace cK := Lib.hid cK
                  clear hW2 he2 hsp2 hr ht hi2 hok htl htd hxs hI2 hall2 hcan hk hk9 cV
                  subst ev2
                  go_wp2_with (go_at_call 40; (with_reducible refine (cK.out _).mono ?_); rintro r w3 ⟨rfl, rfl⟩)
                  go_roundw
                  case rel => exact ⟨i + 1, by go_num, Lib.hid ⟨hs2, hW2h.out, hfin.out⟩⟩
                  case measure => simp [intOf]; omega
            · have hil' : ¬ (i : Int) < (hs2.length : Int) := by omega
              have h5 : Hid (∃ hs', HadW H0 w u3 hs' wr ∧ (hs.length : Int) ≤ hs'.length ∧ ((hs.length : Int) = hs'.length → ∀ t ∈ hs', SplitD hs' t)) := by
                refine ⟨hs2, hW2, by rw [he2, List.length_append]; omega, fun h5 => ?_⟩
                have e0 : hs2 = hs := by
                  rw [he2, List.length_append] at h5
                  rw [he2, List.length_eq_zero_iff.1 (show e2.length = 0 by omega), List.append_nil]
                intro t ht
                obtain ⟨k, hk⟩ := List.getElem?_of_mem ht
                have hkl := (List.getElem?_eq_some_iff.1 hk).1
                rw [e0] at hk ⊢
                exact hsp2 e0 k t (by omega) hk
              subst ev2
              clear hW2 he2 hsp2 hr hi2 hall2 hI2
              go_wp2_with fail
              go_roundw
              case rel => exact ⟨(hs.length : Int), rfl, by omega, h5⟩
              case measure => simp [intOf]; omega
end Go.Proofs.YtphnakdgpilcmaaGreatDoor
