/- The reference's terms as texts: Exp. -/
import Derived.Test.YtphnakdgpilcmaaGreatDoorHb4
namespace Go.Proofs.YtphnakdgpilcmaaGreatDoor
open Go.RowKit

theorem encO_expT {s x : Tm} (hs : s.ok) (hk : s.kind = 5) (hx : x.ok) (hx2 : x.kind = 2) (h8 : s.args.length < 8) : encO (expT (some s) (some x)) = fitsL ([UInt8.ofNat (240 + 5)] ++ u32 s.s.length ++ s.s ++ u32 (s.args.length + 1) ++ encs (ins x s.args)) := by
  obtain ⟨k, a, b, g, args⟩ := s
  have hk : k = 5 := hk
  subst hk
  have h1 := (ok_mk.1 hs).1
  unfold okHd at h1
  simp only [reduceCtorEq, false_and, or_false, false_or, true_and, Nat.reduceEqDiff] at h1
  obtain ⟨rfl, rfl, h2, h3, h4⟩ := h1
  simp only [Tm.args] at h8
  have := encO_mkO (k := 5) (a := 0) (b := 0) (s := g) (l := ins x args) (.inr (.inr (.inr (.inr (.inl ⟨rfl, rfl, rfl, h2, h3, by rw [ins_len]; omega⟩)))))
  have e : expT (some (.mk 5 0 0 g args)) (some x) = mkO 5 0 0 g ((ins x args).map some) := by
    show (if (5 : Nat) = 5 ∧ x.kind = 2 ∧ args.length < 8 then _ else none) = _
    rw [if_pos ⟨rfl, hx2, h8⟩]
    rfl
  rw [e, this, ins_len]
  simp [hd, Tm.s, Tm.args]
theorem expT_bad' {so xo : Option Tm} (h : ¬ (kindO so = 5 ∧ kindO xo = 2 ∧ (∀ t, so = some t → t.args.length < 8))) : expT so xo = none := by
  cases so with
  | none => rfl
  | some s =>
    cases xo with
    | none => rfl
    | some x =>
      show (if s.kind = 5 ∧ x.kind = 2 ∧ s.args.length < 8 then _ else none) = none
      rw [if_neg]
      rintro ⟨h1, h2, h3⟩
      exact h ⟨h1, h2, fun t ht => by obtain rfl := Option.some.inj ht; exact h3⟩
theorem ins_all {x : Tm} : ∀ {l : List Tm} (m : List Tm), (∀ z ∈ l, nle z x) → ins x (l ++ m) = l ++ ins x m
  | [], m, _ => rfl
  | y :: r, m, h => by
    rw [List.cons_append, ins, if_pos (h y (by simp)), ins_all m (fun z hz => h z (by simp [hz])), List.cons_append]
theorem ins_some {x : Tm} : ∀ {l : List Tm} (m : List Tm), (∃ z ∈ l, ¬ nle z x) → ins x (l ++ m) = ins x l ++ m
  | [], m, h => by obtain ⟨z, hz, _⟩ := h; cases hz
  | y :: r, m, h => by
    rw [List.cons_append, ins, ins]
    by_cases hy : nle y x
    · rw [if_pos hy, if_pos hy, List.cons_append]
      congr 1
      refine ins_some m ?_
      obtain ⟨z, hz, hn⟩ := h
      rcases List.mem_cons.1 hz with rfl | hz
      · exact absurd hy hn
      · exact ⟨z, hz, hn⟩
    · rw [if_neg hy, if_neg hy]
      rfl
/-- What is laid of a share's exponents behind j of them. -/
def Laid (x : Tm) (l : List Tm) (done : Bool) (m : List Tm) : Prop := (done = false → m = l ∧ ∀ z ∈ l, nle z x) ∧ (done = true → m = ins x l ∧ ∃ z ∈ l, ¬ nle z x)
theorem Laid.start (x : Tm) : Laid x [] false [] := ⟨fun _ => ⟨rfl, by simp⟩, fun h => by cases h⟩
theorem Laid.late {x : Tm} {l m : List Tm} {done : Bool} (h : Laid x l done m) (y : Tm) (hy : done = true ∨ nle y x) : Laid x (l ++ [y]) done (m ++ [y]) := by
  cases done with
  | false =>
    obtain ⟨rfl, h1⟩ := h.1 rfl
    have hy : nle y x := by rcases hy with hy | hy; cases hy; exact hy
    exact ⟨fun _ => ⟨rfl, fun z hz => by
      rcases List.mem_append.1 hz with hz | hz
      · exact h1 z hz
      · obtain rfl := List.mem_singleton.1 hz; exact hy⟩, fun h => by cases h⟩
  | true =>
    obtain ⟨rfl, z, hz, hn⟩ := h.2 rfl
    exact ⟨(fun h => by cases h), fun _ => ⟨by rw [ins_some [y] ⟨z, hz, hn⟩], z, by simp [hz], hn⟩⟩
theorem Laid.here {x : Tm} {l m : List Tm} (h : Laid x l false m) (y : Tm) (hy : ¬ nle y x) : Laid x (l ++ [y]) true (m ++ [x] ++ [y]) := by
  obtain ⟨rfl, h1⟩ := h.1 rfl
  exact ⟨(fun h => by cases h), fun _ => ⟨by rw [ins_all [y] h1, ins, if_neg hy]; simp, y, by simp, hy⟩⟩
theorem Laid.fin {x : Tm} {l m : List Tm} {done : Bool} (h : Laid x l done m) : ins x l = m ++ (if done then [] else [x]) := by
  cases done with
  | false =>
    obtain ⟨rfl, h1⟩ := h.1 rfl
    have := ins_all (x := x) [] h1
    rw [List.append_nil] at this
    rw [this]; rfl
  | true =>
    obtain ⟨rfl, _⟩ := h.2 rfl
    simp
theorem own_next {w : World} {base : Nat} {v : Value} {l : List ByteArray} (h : OwnS w base v l) (x : ByteArray) : ∃ A c zs, v = .slice A l.length c ∧ zs.length = l.length ∧ OwnR (w.alloc (.cells #[.string x] 9)) base 1 9 v zs ∧ ∀ W v', OwnR W base 1 9 v' (zs ++ [[.string x]]) → OwnS W base v' (l ++ [x]) := by
  obtain ⟨A, c, ev, _⟩ := h.strs
  refine ⟨A, c, l.map sv, ev, by simp, OwnS.keep h (below_new w (.cells #[.string x] 9)), fun W v' h' => ?_⟩
  unfold OwnS
  rw [List.map_append]
  exact h'
set_option maxRecDepth 100000 in
set_option maxHeartbeats 2000000 in
theorem rExp_no (so xo : Option Tm) (hs : okO so) (hx : okO xo) (hsl : (encO so).length ≤ 131072) (hxl : (encO xo).length ≤ 131072) (h : ¬ (kindO so = 5 ∧ kindO xo = 2)) (w : World) :
    Calls Tryz.prog 68 #[.string (bs (encO so)), .string (bs (encO xo))] w (TxR w (encO (expT so xo))) := by
  have e : expT so xo = none := expT_bad' (fun hh => h ⟨hh.1, hh.2.1⟩)
  rw [e, show TxR w (encO none) = TxR w [] from rfl]
  have cS := fun W => rKind_any so hs (by omega) W
  have cX := fun W => rKind_any xo hx (by omega) W
  by_cases h1 : kindO so = 5
  · have h2 : kindO xo ≠ 2 := fun h2 => h ⟨h1, h2⟩
    rw [h1] at cS
    have hne : ((kindO xo : Int) == 2) = false := by rw [beq_eq_false_iff_ne]; omega
    have hne2 : ¬ (kindO xo : Int) = 2 := by omega
    generalize kindO xo = kk at *
    generalize bs (encO so) = x at *
    generalize bs (encO xo) = y at *
    have cS := Lib.hid cS
    have cX := Lib.hid cX
    clear e h h1 h2 hsl hxl
    go_enter Tryz.func68, Tryz.ntmps68
    go_wp2_with (first
      | (go_at_call 40; (with_reducible refine (cS.out _).mono ?_); rintro r w1 ⟨rfl, rfl⟩)
      | (go_at_call 40; (with_reducible refine (cX.out _).mono ?_); rintro r w1 ⟨rfl, rfl⟩))
    go_ret
    exact ⟨rfl, Below.refl _ _⟩
  · have hne : ((kindO so : Int) == 5) = false := by rw [beq_eq_false_iff_ne]; omega
    have hne2 : ¬ (kindO so : Int) = 5 := by omega
    generalize kindO so = kk at *
    generalize bs (encO so) = x at *
    generalize bs (encO xo) = y at *
    have cS := Lib.hid cS
    clear e h h1 hsl hxl cX
    go_enter Tryz.func68, Tryz.ntmps68
    go_wp2_with (go_at_call 40; (with_reducible refine (cS.out _).mono ?_); rintro r w1 ⟨rfl, rfl⟩)
    go_ret
    exact ⟨rfl, Below.refl _ _⟩
set_option maxRecDepth 100000 in
set_option maxHeartbeats 4000000 in
theorem rExp_yes (s x : Tm) (hs : s.ok) (hx : x.ok) (hsl : s.enc.length ≤ 131072) (hk5 : s.kind = 5) (hk2 : x.kind = 2) (w : World) :
    Calls Tryz.prog 68 #[.string (bs s.enc), .string (bs x.enc)] w (TxR w (encO (expT (some s) (some x)))) := by
  have cS : ∀ W, Calls Tryz.prog 40 #[.string (bs s.enc)] W fun r w' => r = .returned (.int .i64 s.kind) ∧ W = w' := fun W => rKind_any (some s) (fun t ht => by obtain rfl := Option.some.inj ht; exact hs) (by show s.enc.length ≤ _; omega) W
  have cX : ∀ W, Calls Tryz.prog 40 #[.string (bs x.enc)] W fun r w' => r = .returned (.int .i64 x.kind) ∧ W = w' := fun W => rKind_any (some x) (fun t ht => by obtain rfl := Option.some.inj ht; exact hx) (by show x.enc.length ≤ _; have : x.enc.length = 9 := nonce_len hx hk2; omega) W
  rw [hk5] at cS
  rw [hk2] at cX
  have cP : Calls Tryz.prog 86 #[.string (bs s.enc), .int .i64 0] w (ParseR s (0 + s.len) w) := rParse_any s.len s (Nat.le_refl _) hs s.enc 0 [] w (by omega) (by simp)
  unfold ParseR at cP
  have hokm : (∀ t ∈ s.args, t.kind = 2) ∧ (∀ t ∈ s.args, t.ok) ∧ s.args.length ≤ 8 ∧ s.s.length ≤ 2100 := by
    obtain ⟨k, a, b, g, args⟩ := s
    have hk5 : k = 5 := hk5
    subst hk5
    have h1 := ok_mk.1 hs
    have h2 := h1.1
    unfold okHd at h2
    simp only [reduceCtorEq, false_and, or_false, false_or, true_and, Nat.reduceEqDiff] at h2
    exact ⟨(h1.2.1.2.1 rfl).1, h1.2.2, h2.2.2.2.2, h2.2.2.2.1⟩
  obtain ⟨hak, hao, hal, hgl⟩ := hokm
  have hfin := fun h8 => encO_expT hs hk5 hx hk2 h8
  have hless : ∀ y ∈ s.args, Op.bytesLess (bs x.enc).toList (bs y.enc).toList = decide (¬ nle y x) := fun y hy => by
    rw [bs_toList', bs_toList', nonce_less hx (hao y hy) hk2 (hak y hy)]
  have h8no : ¬ s.args.length < 8 → expT (some s) (some x) = none := fun h8 => expT_bad' (fun hh => h8 (hh.2.2 s rfl))
  have cSh := fun (l : List Tm) (A : Option Addr) (n c : Nat) (W : World) (hn : l.length = n) (hl : n ≤ 8) (hok : ∀ t ∈ l, t.ok ∧ t.kind = 2) (hA : Strs W A n (l.map fun t => bs t.enc)) => rShare_any s.s l A n c W hn hgl hl hok hA
  have hxk := Lib.hid (show x.ok ∧ x.kind = 2 from ⟨hx, hk2⟩)
  have cS := Lib.hid cS
  have cX := Lib.hid cX
  have cP := Lib.hid cP
  have hak := Lib.hid hak
  have hao := Lib.hid hao
  have hfin := Lib.hid hfin
  have hless := Lib.hid hless
  have h8no := Lib.hid h8no
  have cSh := Lib.hid cSh
  generalize hn : s.args.length = n at *
  have hnh := Lib.hid hn
  clear hs hx hsl hk5 hk2 hgl hn
  go_enter Tryz.func68, Tryz.ntmps68
  go_upto_region 4 with (first
    | (go_at_call 40; (with_reducible refine (cS.out _).mono ?_); rintro r w1 ⟨rfl, rfl⟩)
    | (go_at_call 40; (with_reducible refine (cX.out _).mono ?_); rintro r w1 ⟨rfl, rfl⟩)
    | (go_at_call 86; refine cP.out.mono ?_; rintro r w2 ⟨A, c, rfl, hS, hb, -⟩
       have z1 := Lib.hid (heap_new w2 (.cells rz 91))
       have hS1 := Lib.hid (strs_new hS (.cells rz 91) (rnC s.kind s.a s.b s.s (.slice A n c)).toArray)
       have hb2 := Lib.hid (hb.trans (Below.mono (below_setRow (below_new w2 (.cells rz 91)) (Nat.le_refl _) (rnC s.kind s.a s.b s.s (.slice A n c)).toArray) hb.size))
       clear hS hb)
    | (refine wpList_alloc_row 91 rfl rfl rz rn_zero ?_; try simp only [World.size_alloc])
    | (refine wpList_store_at 91 _ _ rfl rfl w2.heap.size (rnC s.kind s.a s.b s.s (.slice A n c)).toArray rfl rfl 91 rz z1.out (rn_info rfl) rfl rn_all ?_))
  have hr := hsetRow _ _ _ (rnC s.kind s.a s.b s.s (.slice A n c)).toArray _ _ z1.out
  have hb2 : Below w.heap.size w ((w2.alloc (.cells rz 91)).setRow w2.heap.size (rnC s.kind s.a s.b s.s (.slice A n c)).toArray) := hb2.out
  have hS1 : Strs ((w2.alloc (.cells rz 91)).setRow w2.heap.size (rnC s.kind s.a s.b s.s (.slice A n c)).toArray) A n (s.args.map fun u => bs u.enc) := hS1.out
  generalize ((w2.alloc (.cells rz 91)).setRow w2.heap.size (rnC s.kind s.a s.b s.s (.slice A n c)).toArray) = w3 at *
  generalize w2.heap.size = q at *
  have hql : q < w3.heap.size := (Array.getElem?_eq_some_iff.1 hr).1
  have hT := Lib.hid (fun W (h : Below w3.heap.size w3 W) => (show W.cell? ⟨q, 3, none⟩ = some (.string (bs s.s)) ∧ W.cell? ⟨q, 4, none⟩ = some (.slice A n c) from by
    have h1 := (h.block q hql).trans hr
    exact ⟨cell_of_row W q 3 _ _ _ h1, cell_of_row W q 4 _ _ _ h1⟩))
  have hb2 := Lib.hid hb2
  have hS1 := Lib.hid hS1
  obtain ⟨d3, d4⟩ := hT.out w3 (Below.refl _ _)
  clear hr z1 cP cS cX
  by_cases h8 : n < 8
  · have h8i : ¬ (8 : Int) ≤ (n : Int) := by omega
    have hfin := Lib.hid (hfin.out h8)
    obtain ⟨i0, hi, hz0, hz1, hz2⟩ := info_parts str_info
    have hO0 := Lib.hid (OwnR.nil_ w3 w3.heap.size 1 9)
    have hB0 := Lib.hid (Below.refl w3.heap.size w3)
    have hL0 := Lib.hid (Laid.start x)
    go_wp2_with fail
    clear d3 d4
    go_loopw [8, 9, 10] (fun lv dv iv wr => ∃ (j : Nat) (done : Bool) (m : List Tm), j ≤ n ∧ iv = .int .i64 j ∧ dv = .bool done ∧ m.length ≤ j + 1 ∧ Hid (Laid x (s.args.take j) done m) ∧ Hid (OwnS wr w3.heap.size lv (m.map fun u => bs u.enc)) ∧ Hid (Below w3.heap.size w3 wr)) (fun _ _ iv _ => n - (intOf iv).toNat)
    case atStart => exact ⟨0, false, [], by omega, rfl, rfl, by simp, hL0, hO0, hB0⟩
    case round =>
      clear hO0 hB0 hL0
      obtain ⟨j, done, m, hj, rfl, rfl, hml, hL, hO, hB⟩ := hrel
      obtain ⟨d3, d4⟩ := hT.out wr hB.out
      by_cases hlt : j < n
      · obtain ⟨b, off, z, rfl, hbl, hz, hcell⟩ := hS1.out.at_ hlt
        rw [List.getElem?_map] at hz
        obtain ⟨y, hy⟩ : ∃ y, s.args[j]? = some y := ⟨s.args[j]'(by have := hnh.out; omega), List.getElem?_eq_getElem (by have := hnh.out; omega)⟩
        rw [hy] at hz
        have hz : bs y.enc = z := Option.some.inj hz
        subst hz
        have hc := (hB.out.cell (p := ⟨b, off + j, none⟩) hbl).trans hcell
        have htk := take_succ_of hy
        have hls := hless.out y (List.mem_of_getElem? hy)
        have hstep := fun (h : done = true ∨ nle y x) => hL.out.late y h
        rw [← htk] at hstep
        have hc14 : Hid (∀ W, Below w3.heap.size w3 W → W.cell? ⟨b, off + j, none⟩ = some (.string (bs y.enc)) ∧ W.cell? ⟨q, 4, none⟩ = some (.slice (some ⟨b, off, none⟩) n c)) := fun W hW => ⟨(hW.cell (p := ⟨b, off + j, none⟩) hbl).trans hcell, (hT.out W hW).2⟩
        clear hcell hy
        by_cases hq : done = true ∨ nle y x
        · have hLn := Lib.hid (hstep hq)
          have hcmp : done = false → Op.bytesLess (bs x.enc).toList (bs y.enc).toList = false := fun hd => by
            rw [hls]
            rcases hq with hq | hq
            · rw [hd] at hq; cases hq
            · simp [hq]
          obtain ⟨Av, cv, zs, ev, hzl, hOn, hup⟩ := own_next hO.out (bs y.enc)
          subst ev
          have hzb : zs.length ≤ 9 := by rw [List.length_map] at hzl; omega
          have hOn := Lib.hid hOn
          have hup := Lib.hid hup
          have hBn := Lib.hid (hB.out.trans ((below_new wr (.cells #[.string (bs y.enc)] 9)).mono hB.out.size))
          have hrow := Lib.hid (rangeAt_list (heap_new wr (.cells [Value.string (bs y.enc)].toArray 9)))
          have hmm : (m.map fun u => bs u.enc) ++ [bs y.enc] = (m ++ [y]).map fun u => bs u.enc := by simp
          rw [hmm] at hup
          have hml2 : (m ++ [y]).length ≤ j + 1 + 1 := by simp; omega
          generalize m ++ [y] = m2 at *
          generalize (m.map fun u => bs u.enc).length = mv at *
          clear hls hq hstep htk hL hO hmm hzl hml
          cases done with
          | true =>
            clear hcmp
            go_upto_region 10 with (at_builtin; refine wpList_append_one rfl _ _ 29 rfl 9 i0 _ 1 16 Tryz.underlying29 hi hz0 hz1 hz2 rfl (by decide) w3 hBn.out _ zs rfl hOn.out wr.heap.size 1 [.string (bs y.enc)] rfl hrow.out rfl (by simp; rfl) (by unfold maxLen; omega) (by omega) ?_; intro v2 w5 hO2 hB2 hg2)
            have hO2 := Lib.hid (hup.out _ _ hO2)
            have hB2 := Lib.hid hB2
            clear hg2
            go_wp2_with fail
            go_roundw
            case rel => exact ⟨j + 1, true, m2, by omega, by go_num, rfl, hml2, hLn, hO2, hB2⟩
            case measure => simp [intOf]; omega
          | false =>
            have hcm := hcmp rfl
            clear hcmp
            go_upto_region 10 with (at_builtin; refine wpList_append_one rfl _ _ 29 rfl 9 i0 _ 1 16 Tryz.underlying29 hi hz0 hz1 hz2 rfl (by decide) w3 hBn.out _ zs rfl hOn.out wr.heap.size 1 [.string (bs y.enc)] rfl hrow.out rfl (by simp; rfl) (by unfold maxLen; omega) (by omega) ?_; intro v2 w5 hO2 hB2 hg2)
            have hO2 := Lib.hid (hup.out _ _ hO2)
            have hB2 := Lib.hid hB2
            clear hg2
            go_wp2_with fail
            go_roundw
            case rel => exact ⟨j + 1, false, m2, by omega, by go_num, rfl, hml2, hLn, hO2, hB2⟩
            case measure => simp [intOf]; omega
        · obtain ⟨rfl, hny⟩ : done = false ∧ ¬ nle y x := by
            cases done with
            | true => exact absurd (.inl rfl) hq
            | false => exact ⟨rfl, fun h => hq (.inr h)⟩
          have hcm : Op.bytesLess (bs x.enc).toList (bs y.enc).toList = true := by rw [hls]; simp [hny]
          have hLn := hL.out.here y hny
          rw [← htk] at hLn
          have hLn := Lib.hid hLn
          obtain ⟨Av, cv, zs, ev, hzl, hOn, hup⟩ := own_next hO.out (bs x.enc)
          subst ev
          have hm9 : m.length ≤ 8 := by omega
          have hzb : zs.length ≤ 8 := by rw [List.length_map] at hzl; omega
          have hOn := Lib.hid hOn
          have hup := Lib.hid hup
          have hBn := Lib.hid (hB.out.trans ((below_new wr (.cells #[.string (bs x.enc)] 9)).mono hB.out.size))
          have hBw := Lib.hid (below_new wr (.cells #[.string (bs x.enc)] 9))
          have hrow := Lib.hid (rangeAt_list (heap_new wr (.cells [Value.string (bs x.enc)].toArray 9)))
          generalize hml0 : (m.map fun u => bs u.enc).length = mv at *
          have hlen0 : mv = m.length := by rw [← hml0]; simp
          have hmle : m.length ≤ j := by
            obtain ⟨e, _⟩ := hL.out.1 rfl
            rw [e, List.length_take]; omega
          clear hls hq hstep htk hL hO hzl hml hml0
          go_upto_region 13 with (at_builtin; refine wpList_append_one rfl _ _ 29 rfl 9 i0 _ 1 16 Tryz.underlying29 hi hz0 hz1 hz2 rfl (by decide) w3 hBn.out _ zs rfl hOn.out wr.heap.size 1 [.string (bs x.enc)] rfl hrow.out rfl (by simp; rfl) (by unfold maxLen; omega) (by omega) ?_; intro v2 w5 hO2 hB2 hg2)
          have hO2 := hup.out _ _ hO2
          obtain ⟨Av2, cv2, zs2, ev, hzl2, hOn2, hup2⟩ := own_next hO2 (bs y.enc)
          subst ev
          have hzb2 : zs2.length ≤ 9 := by rw [List.length_append, List.length_map] at hzl2; simp only [List.length_singleton] at hzl2; omega
          have hOn2 := Lib.hid hOn2
          have hBn2 := Lib.hid (hB2.trans ((below_new w5 (.cells #[.string (bs y.enc)] 9)).mono hB2.size))
          have hrow2 := Lib.hid (rangeAt_list (heap_new w5 (.cells [Value.string (bs y.enc)].toArray 9)))
          obtain ⟨hc5, hd5⟩ := hc14.out w5 hB2
          have hmm : ((m.map fun u => bs u.enc) ++ [bs x.enc]) ++ [bs y.enc] = (m ++ [x] ++ [y]).map fun u => bs u.enc := by simp
          rw [hmm] at hup2
          have hup2 := Lib.hid hup2
          have hml2 : (m ++ [x] ++ [y]).length ≤ j + 1 + 1 := by simp; omega
          generalize m ++ [x] ++ [y] = m2 at *
          generalize ((m.map fun u => bs u.enc) ++ [bs x.enc]).length = mv2 at *
          clear hO2 hmm hzl2 hup hOn hBn hBw hrow hg2 hc hcm
          go_upto_region 10 with (at_builtin; refine wpList_append_one rfl _ _ 29 rfl 9 i0 _ 1 16 Tryz.underlying29 hi hz0 hz1 hz2 rfl (by decide) w3 hBn2.out _ zs2 rfl hOn2.out w5.heap.size 1 [.string (bs y.enc)] rfl hrow2.out rfl (by simp; rfl) (by unfold maxLen; omega) (by omega) ?_; intro v3 w6 hO3 hB3 hg3)
          have hO3 := Lib.hid (hup2.out _ _ hO3)
          have hB3 := Lib.hid hB3
          clear hg3
          go_wp2_with fail
          go_roundw
          case rel => exact ⟨j + 1, true, m2, by omega, by go_num, rfl, hml2, hLn, hO3, hB3⟩
          case measure => simp [intOf]; omega
      · have hjn : j = n := by omega
        subst hjn
        have hLe := hL.out
        rw [List.take_of_length_le (by rw [hnh.out]; exact Nat.le_refl _)] at hLe
        have hen := hLe.fin
        have hxk2 := hxk.out
        have hall : ∀ t ∈ s.args, t.ok ∧ t.kind = 2 := fun t ht => ⟨hao.out t ht, hak.out t ht⟩
        have hmo : ∀ t ∈ ins x s.args, t.ok ∧ t.kind = 2 := fun t ht => by
          rcases ins_mem.1 ht with rfl | ht
          · exact hxk2
          · exact hall t ht
        have hil : (ins x s.args).length = j + 1 := by rw [ins_len, hnh.out]
        have hSh : Hid (∀ (A : Option Addr) (c : Nat) (W : World), Strs W A (j + 1) ((ins x s.args).map fun t => bs t.enc) → Calls Tryz.prog 100 #[.string (bs s.s), .slice A (j + 1) c] W (TxR W (encO (expT (some s) (some x))))) := fun A c W hA => by
          rw [hfin.out]
          exact cSh.out (ins x s.args) A (j + 1) c W hil (by omega) hmo hA
        have hd3 := Lib.hid (fun W (h : Below w3.heap.size w3 W) => (hT.out W h).1)
        cases done with
        | true =>
          have hen : ins x s.args = m := by rw [hen]; simp
          obtain ⟨A, c1, ev, hA⟩ := hO.out.strs
          rw [← hen] at ev hA
          rw [List.length_map, hil] at ev hA
          subst ev
          have cF := Lib.hid (hSh.out A c1 wr hA)
          unfold TxR at cF
          clear hA hO hL hLe hen hall hmo hil hSh hd3 hfin cSh h8no hless
          generalize hze : bs (encO (expT (some s) (some x))) = z at *
          have hzeh := Lib.hid hze
          clear hze
          go_wp2_with (go_at_call 100; refine cF.out.mono ?_; rintro r w6 ⟨rfl, hb6⟩)
          go_ret
          exact ⟨by rw [hzeh.out]; rfl, hb2.out.trans ((hB.out.trans (hb6.mono hB.out.size)).mono hb2.out.size)⟩
        | false =>
          obtain ⟨Av, cv, zs, ev, hzl, hOn, hup⟩ := own_next hO.out (bs x.enc)
          subst ev
          have hmle : m.length ≤ j := by
            obtain ⟨e, _⟩ := hLe.1 rfl
            rw [e, hnh.out]; exact Nat.le_refl _
          have hzb : zs.length ≤ 8 := by rw [List.length_map] at hzl; omega
          have hOn := Lib.hid hOn
          have hBn := Lib.hid (hB.out.trans ((below_new wr (.cells #[.string (bs x.enc)] 9)).mono hB.out.size))
          have hrow := Lib.hid (rangeAt_list (heap_new wr (.cells [Value.string (bs x.enc)].toArray 9)))
          have hmm : (m.map fun u => bs u.enc) ++ [bs x.enc] = (ins x s.args).map fun u => bs u.enc := by rw [hen]; simp
          rw [hmm] at hup
          have hup := Lib.hid hup
          generalize (m.map fun u => bs u.enc).length = mv at *
          clear hO hL hLe hen hall hmo hzl hmm
          go_upto_region 17 with (at_builtin; refine wpList_append_one rfl _ _ 29 rfl 9 i0 _ 1 16 Tryz.underlying29 hi hz0 hz1 hz2 rfl (by decide) w3 hBn.out _ zs rfl hOn.out wr.heap.size 1 [.string (bs x.enc)] rfl hrow.out rfl (by simp; rfl) (by unfold maxLen; omega) (by omega) ?_; intro v2 w5 hO2 hB2 hg2)
          obtain ⟨A, c1, ev, hA⟩ := (hup.out _ _ hO2).strs
          rw [List.length_map, hil] at ev hA
          subst ev
          have cF := Lib.hid (hSh.out A c1 w5 hA)
          have hd5 := hd3.out w5 hB2
          unfold TxR at cF
          have hB2 := Lib.hid hB2
          clear hA hO2 hup hOn hBn hrow hg2 hil hSh hd3 hfin cSh h8no hless
          generalize hze : bs (encO (expT (some s) (some x))) = z at *
          have hzeh := Lib.hid hze
          clear hze
          go_wp2_with (go_at_call 100; refine cF.out.mono ?_; rintro r w6 ⟨rfl, hb6⟩)
          go_ret
          exact ⟨by rw [hzeh.out]; rfl, hb2.out.trans ((hB2.out.trans (hb6.mono hB2.out.size)).mono hb2.out.size)⟩
  · have h8i : (8 : Int) ≤ (n : Int) := by omega
    have e := Lib.hid (h8no.out h8)
    go_wp2_with fail
    go_ret
    exact ⟨by rw [e.out]; rfl, hb2.out⟩
theorem rExp_any (so xo : Option Tm) (hs : okO so) (hx : okO xo) (hsl : (encO so).length ≤ 131072) (hxl : (encO xo).length ≤ 131072) (w : World) :
    Calls Tryz.prog 68 #[.string (bs (encO so)), .string (bs (encO xo))] w (TxR w (encO (expT so xo))) := by
  by_cases h : kindO so = 5 ∧ kindO xo = 2
  · cases so with
    | none => exact absurd h.1 (by decide)
    | some s =>
      cases xo with
      | none => exact absurd h.2 (by decide)
      | some x => exact rExp_yes s x (hs s rfl) (hx x rfl) hsl h.1 h.2 w
  · exact rExp_no so xo hs hx hsl hxl h w
end Go.Proofs.YtphnakdgpilcmaaGreatDoor
