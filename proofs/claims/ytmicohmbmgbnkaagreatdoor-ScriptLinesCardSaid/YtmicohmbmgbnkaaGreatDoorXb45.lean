/- Texts joined: what each shows stands ahead of its theorems. -/
import Derived.Test.YtmicohmbmgbnkaaGreatDoorXb44
import Derived.Test.YtmicohmbmgbnkaaGreatDoorXb41
namespace Go.Proofs.YtmicohmbmgbnkaaGreatDoor
section
open Go Go.RowKit Go.Shelf Go.ChangeShapes Go.WideShapes Go.Deep

structure FewS (vs : List PV) : Prop where
  c : FewC vs
  tx : ∀ s, vs[2]? = some (.text s) → s.length ≤ 300
  cu : ∀ l, vs[4]? = some (.nums l) → l.length ≤ 20
  op : ∀ l, vs[3]? = some (.ops l) → l.length ≤ 70 ∧ ∀ o ∈ l, o.s.length ≤ 2000
structure StI (W : World) (kd : Int) (vs : List PV) (cs : List Value) : Prop where
  s : StC W kd vs cs
  t : TyVs keyT vs
  b : ∀ v ∈ vs, BigPV v
theorem StI.keep {W W' : World} {kd : Int} {vs : List PV} {cs : List Value} (h : StI W kd vs cs) (hb : Below W.heap.size W W') : StI W' kd vs cs := ⟨h.s.keep hb, h.t, h.b⟩
theorem joinL_bound {c : UInt8} {M : Nat} : ∀ {ps : List (List UInt8)}, (∀ p ∈ ps, p.length ≤ M) → (joinL c ps).length ≤ ps.length * (M + 1)
  | [], _ => Nat.zero_le _
  | [p], h => by have := h p List.mem_cons_self; show p.length ≤ _; simp; omega
  | p :: q :: r, h => by
    have h1 := h p List.mem_cons_self
    have h2 := joinL_bound (c := c) (ps := q :: r) fun x hx => h x (List.mem_cons_of_mem _ hx)
    rw [joinL_cons (by simp), List.length_append, List.length_cons, List.length_cons, Nat.succ_mul]
    omega
theorem list_bound {α : Type} {f : α → List UInt8} {l : List α} {n M : Nat} (hn : l.length ≤ n) (h : ∀ x ∈ l, (f x).length ≤ M) : (joinL 44 (l.map f)).length ≤ n * (M + 1) := by
  have := joinL_bound (c := 44) (ps := l.map f) (M := M) fun p hp => by obtain ⟨x, hx, rfl⟩ := List.mem_map.1 hp; exact h x hx
  rw [List.length_map] at this
  exact Nat.le_trans this (Nat.mul_le_mul_right _ hn)
theorem wrName_b {s : List UInt8} {M : Nat} (h : s.length ≤ M) : (wrName s).length ≤ 3 * M + 1 := by
  unfold wrName
  split
  · simp
  · have := escL_len s; omega
theorem FewS.small {vs : List PV} (h : FewS vs) (hok : TyVs keyT vs) : ∀ v ∈ vs, (wrPV v).length ≤ 1000000 := by
  intro v hv
  obtain ⟨i, hi, rfl⟩ := List.getElem_of_mem hv
  have hg := List.getElem?_eq_getElem hi
  have h26 : i < 26 := by rw [hok.len, keyT_len] at hi; exact hi
  generalize vs[i] = v at hg
  have num : ∀ n, v = .num n → I64 n → (wrPV v).length ≤ 1000000 := fun n e hn => by
    rw [e]; dsimp only [wrPV]; split
    · exact Nat.zero_le _
    · have := itoa_len20 hn; omega
  have nums : ∀ l, v = .nums l → l.length ≤ 20 → (∀ n ∈ l, I64 n) → (wrPV v).length ≤ 1000000 := fun l e hl hn => by
    rw [e]; have := list_bound (f := Go.Lib.itoa) (M := 20) hl fun n h => itoa_len20 (hn n h); dsimp only [wrPV]; omega
  have text : ∀ s, v = .text s → s.length ≤ 300 → (wrPV v).length ≤ 1000000 := fun s e hs => by
    rw [e]; have := escL_len s; dsimp only [wrPV]; omega
  have flag : ∀ b, v = .flag b → (wrPV v).length ≤ 1000000 := fun b e => by
    rw [e]; cases b
    · exact Nat.zero_le _
    · show 1 ≤ _; omega
  have texts : ∀ l, v = .texts l → l.length ≤ 20 → (∀ s ∈ l, s.length ≤ 300) → (wrPV v).length ≤ 1000000 := fun l e hl hn => by
    rw [e]; have := list_bound (f := wrName) (M := 901) hl fun n h => wrName_b (hn n h); dsimp only [wrPV]; omega
  have prf : ∀ l, v = .texts l → 8 ≤ i → i < 16 → (wrPV v).length ≤ 1000000 := fun l e h8 h16 => by
    rw [e] at hg
    obtain ⟨p1, p2⟩ := h.c.pr i l h8 h16 hg
    exact texts l e p1 fun s hs => Nat.le_trans (p2 s hs) (by decide)
  match i, h26 with
  | 0, _ =>
    have ho := hok.at (i := 0) rfl hg
    cases v <;> first | exact absurd ho id | skip
    exact num _ rfl ho
  | 1, _ =>
    have ho := hok.at (i := 1) rfl hg
    cases v <;> first | exact absurd ho id | skip
    exact num _ rfl ho
  | 2, _ =>
    have ho := hok.at (i := 2) rfl hg
    cases v <;> first | exact absurd ho id | skip
    exact text _ rfl (h.tx _ hg)
  | 3, _ =>
    have ho := hok.at (i := 3) rfl hg
    cases v <;> first | exact absurd ho id | skip
    obtain ⟨p1, p2⟩ := h.op _ hg
    have := list_bound (f := wrOp) (M := 10000) p1 fun o ho9 => by
      have h1 := escL_len o.s
      have h2 := p2 o ho9
      obtain ⟨q3, q4, q5⟩ := ho o ho9
      have h3 := itoa_len20 q3
      have h4 := itoa_len20 q4
      have h5 := itoa_len20 q5
      have h6 : ∀ k : Fin 15, (opW.getD k.1 []).length ≤ 10 := by decide +kernel
      have h7 : (opW.getD o.kind.toNat []).length ≤ 10 := by
        by_cases hk : o.kind.toNat < 15
        · exact h6 ⟨o.kind.toNat, hk⟩
        · rw [List.getD_eq_getElem?_getD, List.getElem?_eq_none (by show 15 ≤ _; omega)]; exact Nat.zero_le _
      have h8 := joinL_bound (c := 58) (M := 6000) (ps := [opW.getD o.kind.toNat [], Go.Lib.itoa o.a, Go.Lib.itoa o.b, Go.Lib.itoa o.c, escL o.s]) fun p hp => by
        simp only [List.mem_cons, List.not_mem_nil, or_false] at hp
        rcases hp with rfl | rfl | rfl | rfl | rfl <;> omega
      have h9 : (wrOp o).length = (joinL 58 [opW.getD o.kind.toNat [], Go.Lib.itoa o.a, Go.Lib.itoa o.b, Go.Lib.itoa o.c, escL o.s]).length := rfl
      have h10 : (joinL 58 [opW.getD o.kind.toNat [], Go.Lib.itoa o.a, Go.Lib.itoa o.b, Go.Lib.itoa o.c, escL o.s]).length ≤ 10000 := by
        simp only [joinL, List.length_append, List.length_cons]
        omega
      omega
    dsimp only [wrPV]
    omega
  | 4, _ =>
    have ho := hok.at (i := 4) rfl hg
    cases v <;> first | exact absurd ho id | skip
    exact nums _ rfl (h.cu _ hg) ho
  | 5, _ =>
    have ho := hok.at (i := 5) rfl hg
    cases v <;> first | exact absurd ho id | skip
    exact flag _ rfl
  | 6, _ =>
    have ho := hok.at (i := 6) rfl hg
    cases v <;> first | exact absurd ho id | skip
    exact text _ rfl (h.c.tx 6 _ (by simp) hg)
  | 7, _ =>
    have ho := hok.at (i := 7) rfl hg
    cases v <;> first | exact absurd ho id | skip
    exact text _ rfl (h.c.tx 7 _ (by simp) hg)
  | 8, _ =>
    have ho := hok.at (i := 8) rfl hg
    cases v <;> first | exact absurd ho id | skip
    exact prf _ rfl (by decide) (by decide)
  | 9, _ =>
    have ho := hok.at (i := 9) rfl hg
    cases v <;> first | exact absurd ho id | skip
    exact prf _ rfl (by decide) (by decide)
  | 10, _ =>
    have ho := hok.at (i := 10) rfl hg
    cases v <;> first | exact absurd ho id | skip
    exact prf _ rfl (by decide) (by decide)
  | 11, _ =>
    have ho := hok.at (i := 11) rfl hg
    cases v <;> first | exact absurd ho id | skip
    exact prf _ rfl (by decide) (by decide)
  | 12, _ =>
    have ho := hok.at (i := 12) rfl hg
    cases v <;> first | exact absurd ho id | skip
    exact prf _ rfl (by decide) (by decide)
  | 13, _ =>
    have ho := hok.at (i := 13) rfl hg
    cases v <;> first | exact absurd ho id | skip
    exact prf _ rfl (by decide) (by decide)
  | 14, _ =>
    have ho := hok.at (i := 14) rfl hg
    cases v <;> first | exact absurd ho id | skip
    exact prf _ rfl (by decide) (by decide)
  | 15, _ =>
    have ho := hok.at (i := 15) rfl hg
    cases v <;> first | exact absurd ho id | skip
    exact prf _ rfl (by decide) (by decide)
  | 16, _ =>
    have ho := hok.at (i := 16) rfl hg
    cases v <;> first | exact absurd ho id | skip
    exact texts _ rfl (h.c.al _ hg).1 (h.c.al _ hg).2
  | 17, _ =>
    have ho := hok.at (i := 17) rfl hg
    cases v <;> first | exact absurd ho id | skip
    exact num _ rfl ho
  | 18, _ =>
    have ho := hok.at (i := 18) rfl hg
    cases v <;> first | exact absurd ho id | skip
    obtain ⟨p1, p2⟩ := h.c.gr _ hg
    have := list_bound (f := wrGr) (M := 1000) p1 fun g hg9 => by
      have h1 := escL_len g.user
      have h2 := p2 g hg9
      have h3 := itoa_len20 (ho g hg9)
      show (joinL 58 [escL g.user, Go.Lib.itoa g.who]).length ≤ _
      rw [joinL_cons (by simp), show joinL 58 [Go.Lib.itoa g.who] = Go.Lib.itoa g.who from rfl, List.length_append, List.length_cons]
      omega
    dsimp only [wrPV]
    omega
  | 19, _ =>
    have ho := hok.at (i := 19) rfl hg
    cases v <;> first | exact absurd ho id | skip
    exact num _ rfl ho
  | 20, _ =>
    have ho := hok.at (i := 20) rfl hg
    cases v <;> first | exact absurd ho id | skip
    exact num _ rfl ho
  | 21, _ =>
    have ho := hok.at (i := 21) rfl hg
    cases v <;> first | exact absurd ho id | skip
    exact text _ rfl (h.c.tx 21 _ (by simp) hg)
  | 22, _ =>
    have ho := hok.at (i := 22) rfl hg
    cases v <;> first | exact absurd ho id | skip
    exact nums _ rfl (h.c.ks _ hg) ho
  | 23, _ =>
    have ho := hok.at (i := 23) rfl hg
    cases v <;> first | exact absurd ho id | skip
    exact flag _ rfl
  | 24, _ =>
    have ho := hok.at (i := 24) rfl hg
    cases v <;> first | exact absurd ho id | skip
    exact flag _ rfl
  | 25, _ =>
    have ho := hok.at (i := 25) rfl hg
    cases v <;> first | exact absurd ho id | skip
    have h1 := itoa_len20 (i64_nat ho.1)
    have h2 := itoa_len20 (i64_nat ho.2.1)
    have h3 := itoa_len20 (i64_nat ho.2.2)
    dsimp only [wrPV]
    split
    · exact Nat.zero_le _
    · simp only [joinL, List.length_append, List.length_cons]
      omega
  | i + 26, h26 => exact absurd h26 (by omega)
end

section
open Go Go.RowKit Go.Shelf Go.ChangeShapes Go.WideShapes Go.Deep

set_option maxRecDepth 100000 in
set_option maxHeartbeats 8000000 in
theorem few30_any (SL : List (Int × List PV × List Value)) (A : Option Addr) (n c : Nat) (V : World) (H : Rws V 29 A n (SL.map fun s => s.2.2)) (hI : ∀ s ∈ SL, StI V s.1 s.2.1 s.2.2) (hn63 : n ≤ 9223372036854775807) :
    Calls Tryz.prog 18 #[.slice A n c] V fun r w' => ∃ b, r = .returned (.bool b) ∧ Below V.heap.size V w' ∧ (b = true → n ≤ 40 ∧ ∀ s ∈ SL, FewS s.2.1) := by
  have hnl : SL.length = n := by have := H.1; simpa using this
  by_cases h40 : 40 < n
  · have k40 : (40 : Int) < (n : Int) := by omega
    go_enter Tryz.func18, Tryz.ntmps18
    go_wp2_with fail
    go_ret
    exact ⟨false, rfl, Below.refl _ _, fun h => by cases h⟩
  have k40 : ¬ (40 : Int) < (n : Int) := by omega
  have hnl' := Lib.hid hnl
  have hH := Lib.hid H
  have hIh := Lib.hid hI
  clear hnl H hI
  go_enter Tryz.func18, Tryz.ntmps18
  go_wp2_with fail
  go_loopw [3] (fun jv wr => ∃ i : Nat, i ≤ n ∧ jv = .int .i64 i ∧ Hid (∀ (j : Nat) s, j < i → SL[j]? = some s → FewS s.2.1) ∧ Hid (Below V.heap.size V wr)) (fun jv _ => n - (intOf jv).toNat)
  case atStart => exact ⟨0, Nat.zero_le _, rfl, Lib.hid (fun j s h => absurd h (Nat.not_lt_zero _)), Lib.hid (Below.refl _ _)⟩
  case round =>
    obtain ⟨i, hi, rfl, hA9, hBr⟩ := hrel
    generalize wr = wv at *
    by_cases hlt2 : i < n
    · have hlt' : (i : Int) < (n : Int) := by omega
      have h0i : (0 : Int) ≤ (i : Int) := Int.natCast_nonneg _
      obtain ⟨b2, off2, z2, rfl, hb2, hz2, hz29, hr2⟩ := Rws.row (hH.out.keep hBr.out) hlt2
      obtain ⟨x, hx, rfl⟩ := map_at hz2
      obtain ⟨kd, vs, cs⟩ := x
      have hI := hIh.out _ (List.mem_of_getElem? hx)
      dsimp only at hI hr2
      have hty := hI.t
      have hS := hI.s
      have hbg := hI.b
      obtain ⟨tx, htx⟩ := text_ty hty 2 (by decide) rfl
      obtain ⟨cu, hcu⟩ := nums_ty hty 4 (by decide) rfl
      obtain ⟨os, hos, _, _⟩ := hty.ops
      have ctx : cs[26]? = some (.string (bs tx)) := cell_of hS htx rfl (fun z h => by have e : z = _ := h; rw [e]; rfl)
      obtain ⟨sAk, sck, sks, _, _, _⟩ := slice_of (K := 1) (zs := cu.map iv) hS hcu rfl (fun z h => h)
      obtain ⟨sAo, sco, sos, _, _, soR⟩ := slice_of (K := 5) (zs := os.map OpX.row) hS hos rfl (fun z h => h)
      simp only [List.length_map] at sks sos soR
      have hbt : tx.length ≤ 9223372036854775807 := hbg _ (List.mem_of_getElem? htx)
      have hbo : ∀ o ∈ os, o.s.length ≤ 9223372036854775807 := hbg _ (List.mem_of_getElem? hos)
      have hfl : ((cs.drop 2).take 23).length = 23 := by rw [List.length_take, List.length_drop, hS.len]; decide
      have hmid : wv.rangeAt b2 (off2 + i * 29 + 2) ((cs.drop 2).take 23) := fun j v hj => by
        have hj2 : j < 23 := by have := (List.getElem?_eq_some_iff.1 hj).1; omega
        rw [List.getElem?_take, if_pos hj2, List.getElem?_drop] at hj
        have := hr2 (2 + j) v hj
        rwa [show off2 + i * 29 + (2 + j) = off2 + i * 29 + 2 + j by omega] at this
      have c26 : wv.cell? ⟨b2, off2 + i * 29 + 26, none⟩ = some (.string (bs tx)) := hr2 26 _ ctx
      have c28 : wv.cell? ⟨b2, off2 + i * 29 + 28, none⟩ = some (.slice sAk cu.length sck) := hr2 28 _ sks
      have c27 : wv.cell? ⟨b2, off2 + i * 29 + 27, none⟩ = some (.slice sAo os.length sco) := hr2 27 _ sos
      have hCl := Lib.hid (fun W' (h : Below wv.heap.size wv W') => And.intro ((h.cell (p := ⟨b2, off2 + i * 29 + 26, none⟩) hb2).trans c26) (And.intro ((h.cell (p := ⟨b2, off2 + i * 29 + 28, none⟩) hb2).trans c28) ((h.cell (p := ⟨b2, off2 + i * 29 + 27, none⟩) hb2).trans c27)))
      have c25 := Lib.hid (few25_any cs kd vs wv (hS.keep hBr.out) hty hbg)
      have hEnd : Hid (FewC vs → tx.length ≤ 300 → cu.length ≤ 20 → os.length ≤ 70 → (∀ o ∈ os, o.s.length ≤ 2000) → ∀ (j : Nat) s, j < i + 1 → SL[j]? = some s → FewS s.2.1) := Lib.hid (fun q1 q2 q3 q4 q5 j s hj hs => by
        by_cases e : j = i
        · rw [e, hx] at hs
          injection hs with hs
          rw [← hs]
          refine ⟨q1, fun s hs => ?_, fun l hl => ?_, fun l hl => ?_⟩
          · rw [htx] at hs; injection hs with hs; injection hs with hs; subst hs; exact q2
          · rw [hcu] at hl; injection hl with hl; injection hl with hl; subst hl; exact q3
          · rw [hos] at hl; injection hl with hl; injection hl with hl; subst hl; exact ⟨q4, q5⟩
        · exact hA9.out j s (by omega) hs)
      have hzt : (bs tx).size = tx.length := bs_size _
      have hcfi := cf_in9 _ hfl
      obtain ⟨nc, hnc⟩ : ∃ nc, cu.length = nc := ⟨_, rfl⟩
      obtain ⟨no, hno⟩ : ∃ no, os.length = no := ⟨_, rfl⟩
      rw [hnc] at hCl hEnd
      rw [hno] at hCl hEnd soR
      rw [← hzt] at hEnd hbt
      have soR9 := Lib.hid (soR.keep hBr.out)
      replace hbo := Lib.hid hbo
      replace hno := Lib.hid hno
      generalize bs tx = yt at *
      generalize (cs.drop 2).take 23 = cf at *
      clear hz2 hx hr2 hzt hA9 hI hS hbg hty c26 c27 c28 soR hz29 hnc htx hcu hos ctx sks sos hfl
      by_cases h1 : 300 < yt.size
      · have kh1 : (300 : Int) < (yt.size : Int) := by omega
        go_wp2_with (first
          | (refine wpList_load_at 41 _ rfl rfl b2 (off2 + i * 29 + 2) rfl cf _ hmid Tryz.underlying41 rfl hcfi ?_)
          | (go_at_call 39; (with_reducible refine c25.out.mono ?_); rintro r w5 ⟨b1, rfl, hb5, hf⟩
             obtain ⟨d26, d28, d27⟩ := hCl.out w5 hb5
             have hB5 := Lib.hid (hBr.out.trans (hb5.mono hBr.out.size))
             replace hf := Lib.hid hf
             replace hb5 := Lib.hid hb5
             cases b1))
        all_goals
          go_ret
          exact ⟨false, rfl, hB5.out, fun h => by cases h⟩
      have kh1 : ¬ (300 : Int) < (yt.size : Int) := by omega
      by_cases h2 : 20 < nc
      · have kh2 : (20 : Int) < (nc : Int) := by omega
        go_wp2_with (first
          | (refine wpList_load_at 41 _ rfl rfl b2 (off2 + i * 29 + 2) rfl cf _ hmid Tryz.underlying41 rfl hcfi ?_)
          | (go_at_call 39; (with_reducible refine c25.out.mono ?_); rintro r w5 ⟨b1, rfl, hb5, hf⟩
             obtain ⟨d26, d28, d27⟩ := hCl.out w5 hb5
             have hB5 := Lib.hid (hBr.out.trans (hb5.mono hBr.out.size))
             replace hf := Lib.hid hf
             replace hb5 := Lib.hid hb5
             cases b1))
        all_goals
          go_ret
          exact ⟨false, rfl, hB5.out, fun h => by cases h⟩
      have kh2 : ¬ (20 : Int) < (nc : Int) := by omega
      by_cases h3 : 70 < no
      · have kh3 : (70 : Int) < (no : Int) := by omega
        go_wp2_with (first
          | (refine wpList_load_at 41 _ rfl rfl b2 (off2 + i * 29 + 2) rfl cf _ hmid Tryz.underlying41 rfl hcfi ?_)
          | (go_at_call 39; (with_reducible refine c25.out.mono ?_); rintro r w5 ⟨b1, rfl, hb5, hf⟩
             obtain ⟨d26, d28, d27⟩ := hCl.out w5 hb5
             have hB5 := Lib.hid (hBr.out.trans (hb5.mono hBr.out.size))
             replace hf := Lib.hid hf
             replace hb5 := Lib.hid hb5
             cases b1))
        all_goals
          go_ret
          exact ⟨false, rfl, hB5.out, fun h => by cases h⟩
      have kh3 : ¬ (70 : Int) < (no : Int) := by omega
      go_upto_region 8 with (first
        | (refine wpList_load_at 41 _ rfl rfl b2 (off2 + i * 29 + 2) rfl cf _ hmid Tryz.underlying41 rfl hcfi ?_)
        | (go_at_call 39; (with_reducible refine c25.out.mono ?_); rintro r w5 ⟨b1, rfl, hb5, hf⟩
           obtain ⟨d26, d28, d27⟩ := hCl.out w5 hb5
           have hB5 := Lib.hid (hBr.out.trans (hb5.mono hBr.out.size))
           replace hf := Lib.hid hf
           replace hb5 := Lib.hid hb5
           cases b1))
      · go_wp2_with fail
        go_ret
        exact ⟨false, rfl, hB5.out, fun h => by cases h⟩
      · go_wp2_with fail
        go_loopw [4] (fun jv wq => ∃ k : Nat, k ≤ no ∧ jv = .int .i64 k ∧ Hid (∀ (j : Nat) o, j < k → os[j]? = some o → o.s.length ≤ 2000) ∧ Hid (Below wv.heap.size wv wq)) (fun jv _ => no - (intOf jv).toNat)
        case atStart => exact ⟨0, Nat.zero_le _, rfl, Lib.hid (fun j s h => absurd h (Nat.not_lt_zero _)), hb5⟩
        case round =>
          obtain ⟨k, hk, rfl, hO9, hBq⟩ := hrel
          obtain ⟨d26, d28, d27⟩ := hCl.out wr hBq.out
          have hBV := Lib.hid (hBr.out.trans (hBq.out.mono hBr.out.size))
          by_cases hlt3 : k < no
          · have hlk' : (k : Int) < (no : Int) := by omega
            have h0k : (0 : Int) ≤ (k : Int) := Int.natCast_nonneg _
            obtain ⟨b3, off3, z3, rfl, hb3, hz3, _, hr3⟩ := Rws.row (soR9.out.keep hBq.out) hlt3
            obtain ⟨y, hy, rfl⟩ := map_at hz3
            have hcl := hr3 4 _ rfl
            have hby := hbo.out y (List.mem_of_getElem? hy)
            have hzy : (bs y.s).size = y.s.length := bs_size _
            have hny : Hid (y.s.length ≤ 2000 → ∀ (j : Nat) o, j < k + 1 → os[j]? = some o → o.s.length ≤ 2000) := Lib.hid (fun h j o hj ho => by
              by_cases e : j = k
              · rw [e, hy] at ho; injection ho with ho; rw [← ho]; exact h
              · exact hO9.out j o (by omega) ho)
            rw [← hzy] at hny hby
            generalize bs y.s = yy at *
            clear hz3 hy hr3 hzy hO9
            by_cases hx3 : 2000 < yy.size
            · have kx : (2000 : Int) < (yy.size : Int) := by omega
              go_wp2_with fail
              go_ret
              exact ⟨false, rfl, hBV.out, fun h => by cases h⟩
            · have kx : ¬ (2000 : Int) < (yy.size : Int) := by omega
              have hn2 := Lib.hid (hny.out (by omega))
              clear hny
              go_wp2_with fail
              go_roundw
              case rel => exact ⟨k + 1, by omega, by go_num, hn2, hBq⟩
              case measure => simp [intOf]; omega
          · obtain rfl : k = no := by omega
            have hO8 : ∀ o ∈ os, o.s.length ≤ 2000 := fun o ho => by
              obtain ⟨j, hj, e⟩ := List.getElem_of_mem ho
              exact hO9.out j o (by have := hno.out; omega) (by rw [List.getElem?_eq_getElem hj, e])
            have hA8 := Lib.hid (hEnd.out (hf.out (by trivial)) (by omega) (by omega) (by omega) hO8)
            clear hO9 hO8
            go_wp2_with fail
            go_roundw
            case rel => exact ⟨i + 1, by omega, by go_num, hA8, hBV⟩
            case measure => simp [intOf]; omega
    · obtain rfl : i = n := by omega
      have hF9 : ∀ s ∈ SL, FewS s.2.1 := fun s hs => by
        obtain ⟨j, hj, e⟩ := List.getElem_of_mem hs
        exact hA9.out j s (by have := hnl'.out; omega) (by rw [List.getElem?_eq_getElem hj, e])
      have hF8 := Lib.hid hF9
      clear hF9 hA9
      go_wp2_with fail
      go_ret
      exact ⟨true, rfl, hBr.out, fun _ => ⟨by omega, hF8.out⟩⟩
end

section
open Go Go.RowKit Go.Shelf
open Go.Lib (itoa)

def erW : Array Value := #[.int .i64 6, .string ⟨#[119, 111, 114, 100, 32]⟩]
theorem erW_one : erW.all (·.oneCell') = true := by decide +kernel
set_option maxRecDepth 100000 in
set_option maxHeartbeats 4000000 in
theorem rline_word (cs : List Value) (k : Int) (vs : List PV) (w : World) (hS : StC w k vs cs) (hk : ¬ (0 ≤ k ∧ k < 9)) :
    Calls Tryz.prog 20 #[.agg cs.toArray] w fun r w' => r = .returned (.tuple #[.string ⟨#[]⟩, .agg erW]) ∧ Below w.heap.size w w' := by
  have hB1 := below_new w (.cells cs.toArray 44)
  have hb : Row (w.alloc (.cells cs.toArray 44)) w.heap.size 44 cs := heap_new w _
  have hB2 := below_new (w.alloc (.cells cs.toArray 44)) (.cells erZ 53)
  have hg2 := heap_new (w.alloc (.cells cs.toArray 44)) (.cells erZ 53)
  simp only [World.size_alloc] at hg2
  obtain ⟨W2, hW2⟩ : ∃ x, (w.alloc (.cells cs.toArray 44)).alloc (.cells erZ 53) = x := ⟨_, rfl⟩
  have hB := hB1.trans (hB2.mono hB1.size)
  have hblk := hb.keep hB2
  rw [hW2] at hB hg2 hblk
  have hc0 : W2.cell? ⟨w.heap.size, 0, none⟩ = some (.int .i64 k) := hblk.cell hS.kind
  replace hB := Lib.hid hB
  clear hS hB1 hb hB2 hblk
  by_cases h0 : k < 0
  · go_enter Tryz.func20, Tryz.ntmps20
    go_upto_region 1 with (first
      | (refine wpList_box_row 44 _ rfl rfl cs.toArray rfl ?_)
      | (refine wpList_alloc_row 53 rfl rfl erZ er_zero ?_; try simp only [World.size_alloc]))
    try rw [hW2]
    clear hW2
    go_wp2_with (first
      | (refine wpList_build_as 53 _ rfl rfl erW (by kernel_rfl) ?_)
      | (refine wpList_store_at 53 _ _ rfl rfl (w.heap.size + 1) erW rfl rfl 53 erZ hg2 (by kernel_rfl) rfl erW_one ?_))
    refine bodyPost_ret (results_tmp_cell rfl _ _ (w.heap.size + 1) 53 erW (0, 0) _ (.string ⟨#[]⟩) rfl (hsetRow _ _ _ _ _ _ hg2) Tryz.underlying53 rfl (by kernel_rfl) rfl) rfl ⟨rfl, below_setRow hB.out (Nat.le_succ _) _⟩
  · have h8 : 8 < k := by omega
    go_enter Tryz.func20, Tryz.ntmps20
    go_upto_region 1 with (first
      | (refine wpList_box_row 44 _ rfl rfl cs.toArray rfl ?_)
      | (refine wpList_alloc_row 53 rfl rfl erZ er_zero ?_; try simp only [World.size_alloc]))
    try rw [hW2]
    clear hW2
    go_wp2_with (first
      | (refine wpList_build_as 53 _ rfl rfl erW (by kernel_rfl) ?_)
      | (refine wpList_store_at 53 _ _ rfl rfl (w.heap.size + 1) erW rfl rfl 53 erZ hg2 (by kernel_rfl) rfl erW_one ?_))
    refine bodyPost_ret (results_tmp_cell rfl _ _ (w.heap.size + 1) 53 erW (0, 0) _ (.string ⟨#[]⟩) rfl (hsetRow _ _ _ _ _ _ hg2) Tryz.underlying53 rfl (by kernel_rfl) rfl) rfl ⟨rfl, below_setRow hB.out (Nat.le_succ _) _⟩
theorem line_bads (cs : List Value) (kd : Int) (vs : List PV) (W : World) (E : EnvS W) (hI : StI W kd vs cs) (hF : FewS vs) :
    (∃ (p y : ByteArray), y = spS [p] ∧ p.size ≤ 10 ∧ (∀ W', Below W.heap.size W W' → Calls Tryz.prog 19 #[.agg cs.toArray] W' (ErrOut (.string ⟨#[]⟩) 6 [p] W')) ∧ ∀ W', Below W.heap.size W W' → Calls Tryz.prog 20 #[.agg cs.toArray] W' fun r w' => r = .returned (.tuple #[.string ⟨#[]⟩, .agg #[.int .i64 6, .string y]]) ∧ Below W'.heap.size W' w') ∨
    (∃ k : Nat, kd = k ∧ k < 9 ∧ OkVs keyT vs ∧ (∀ W', Below W.heap.size W W' → Calls Tryz.prog 19 #[.agg cs.toArray] W' fun r w' => r = .returned (.tuple #[.string (bs (lineX k vs)), .nilIface]) ∧ Below W'.heap.size W' w') ∧ ∀ W', Below W.heap.size W W' → Calls Tryz.prog 20 #[.agg cs.toArray] W' fun r w' => r = .returned (.tuple #[.string (bs (lineX k vs)), .agg erZ]) ∧ Below W'.heap.size W' w') := by
  by_cases hk : 0 ≤ kd ∧ kd < 9
  · by_cases hb : ∃ o ∈ opsOf vs, ¬ okK o
    · refine .inl ⟨opsS, ⟨#[111, 112, 115, 32]⟩, by rw [spS_one]; rfl, by decide, fun W' h => ?_, fun W' h => rline_bad cs kd vs W' (hI.s.keep h) hI.t hb hk⟩
      refine (line_go cs kd vs W' (E.keep h E.size) (hI.s.keep h) hI.t hk (fun v hv => Nat.le_trans (hF.small hI.t v hv) (show 1000000 ≤ 1099511627776 by decide))).mono fun r w' hr => ?_
      rcases hr with ⟨_, he⟩ | ⟨hok, _⟩
      · exact he
      · exfalso
        obtain ⟨o, ho, hno⟩ := hb
        obtain ⟨l, hl3, hol3, _⟩ := hI.t.ops
        rw [hol3] at ho
        have := hok.at (i := 3) rfl hl3 o ho
        exact hno ⟨this.1, this.2.1⟩
    · have hok := hI.t.ok (fun o ho => Classical.byContradiction fun h => hb ⟨o, ho, h⟩)
      obtain ⟨k, rfl⟩ := Int.eq_ofNat_of_zero_le hk.1
      have hsz := fun v hv => Nat.le_trans (hF.small hI.t v hv) (show 1000000 ≤ 1099511627776 by decide)
      refine .inr ⟨k, rfl, by omega, hok, fun W' h => ?_, fun W' h => rline_good cs k vs W' (hI.s.keep h) hok hk hsz⟩
      refine (line_go cs k vs W' (E.keep h E.size) (hI.s.keep h) hI.t hk hsz).mono fun r w' hr => ?_
      rcases hr with ⟨h1, _⟩ | ⟨_, h2, h3⟩
      · exact absurd h1 hb
      · exact ⟨h2, h3⟩
  · exact .inl ⟨wordS, ⟨#[119, 111, 114, 100, 32]⟩, by rw [spS_one]; rfl, by decide, fun W' h => line_word cs kd vs W' (E.keep h E.size) (hI.s.keep h) hk, fun W' h => rline_word cs kd vs W' (hI.s.keep h) hk⟩
end

section
open Go Go.RowKit Go.Shelf
open Go.Lib (itoa)

theorem toks_max {M : Nat} : ∀ {ks : KT} {vs : List PV}, (∀ p ∈ ks, p.1.length ≤ 20) → (∀ v ∈ vs, (wrPV v).length ≤ M) → (tokens ks vs).length ≤ ks.length ∧ ∀ t ∈ tokens ks vs, t.length ≤ M + 21
  | [], [], _, _ => ⟨Nat.le_refl _, fun t h => by cases h⟩
  | [], _ :: _, _, _ => ⟨Nat.le_refl _, fun t h => by cases h⟩
  | _ :: _, [], _, _ => ⟨Nat.zero_le _, fun t h => by cases h⟩
  | (k, g) :: ks, v :: vs, hk, hv => by
    obtain ⟨h1, h2⟩ := toks_max (ks := ks) (vs := vs) (fun p hp => hk p (List.mem_cons_of_mem _ hp)) (fun p hp => hv p (List.mem_cons_of_mem _ hp))
    have k1 := hk (k, g) List.mem_cons_self
    have v1 := hv v List.mem_cons_self
    dsimp only at k1
    rw [tokens]
    split
    · exact ⟨Nat.le_succ_of_le h1, h2⟩
    · refine ⟨by simp; exact h1, fun t ht => ?_⟩
      rcases List.mem_cons.1 ht with rfl | ht
      · simp only [List.length_append, List.length_cons]; omega
      · exact h2 t ht
theorem key_len20 : ∀ p ∈ keyT, p.1.length ≤ 20 := by decide +kernel
theorem kw_len : ∀ k : Fin 9, (kindW.getD k.1 []).length ≤ 10 := by decide +kernel
theorem line_max {k : Nat} {vs : List PV} {M : Nat} (hk : k < 9) (hv : ∀ v ∈ vs, (wrPV v).length ≤ M) : (lineX k vs).length ≤ 27 * (M + 22) := by
  obtain ⟨h1, h2⟩ := toks_max key_len20 hv
  have h3 := kw_len ⟨k, hk⟩
  have h4 := joinL_bound (c := 32) (M := M + 21) (ps := kindW.getD k [] :: tokens keyT vs) fun p hp => by
    rcases List.mem_cons.1 hp with rfl | hp
    · dsimp only at h3; omega
    · exact h2 p hp
  rw [List.length_cons] at h4
  rw [keyT_len] at h1
  unfold lineX
  rw [Int.toNat_natCast]
  refine Nat.le_trans h4 ?_
  exact Nat.mul_le_mul (by omega) (Nat.le_refl _)
theorem step_info9 : (Tryz.prog.info? 44).map (fun i => (i.zero, i.size)) = some (some (.agg (stZ 0).toArray), 29) := by kernel_rfl
set_option maxRecDepth 100000 in
set_option maxHeartbeats 8000000 in
theorem law_scriptLines (cs : List Value) (kd : Int) (vs : List PV) (V : World) (E : EnvS V) (G : ETy V) (hI : StI V kd vs cs) :
    Calls Tryz.prog 5 #[.agg cs.toArray] V fun r w' => r = .returned (.bool true) ∧ Below V.heap.size V w' := by
  obtain ⟨i0, hi0, hz0, hz1⟩ : ∃ i, Tryz.prog.info? 44 = some i ∧ i.zero = some (.agg (stZ 0).toArray) ∧ i.size = 29 := by
    have h := step_info9
    cases hq : Tryz.prog.info? 44 with
    | none => rw [hq] at h; cases h
    | some i =>
      rw [hq] at h
      injection h with h
      injection h with h1 h2
      exact ⟨i, rfl, h1, h2⟩
  have cA := Lib.hid (fun W' (h : Below V.heap.size V W') => awake35_any W' (E.keep h E.size))
  have hB1 := below_new V (.cells cs.toArray 44)
  have hR1 : Row (V.alloc (.cells cs.toArray 44)) V.heap.size 44 cs := heap_new V _
  have hb2 := below_new (V.alloc (.cells cs.toArray 44)) (.cells cs.toArray 44)
  have hR2 : Row ((V.alloc (.cells cs.toArray 44)).alloc (.cells cs.toArray 44)) V.heap.size 44 cs := hR1.keep hb2
  have hR3 : Row ((V.alloc (.cells cs.toArray 44)).alloc (.cells cs.toArray 44)) (V.heap.size + 1) 44 cs := by have := heap_new (V.alloc (.cells cs.toArray 44)) (.cells cs.toArray 44); rwa [World.size_alloc] at this
  have hB2 := hB1.trans (hb2.mono hB1.size)
  have hrs : Rws ((V.alloc (.cells cs.toArray 44)).alloc (.cells cs.toArray 44)) 29 (some ⟨V.heap.size + 1, 0, none⟩) 1 ([(kd, vs, cs)].map fun s : Int × List PV × List Value => s.2.2) :=
    Rws.block (w := (V.alloc (.cells cs.toArray 44)).alloc (.cells cs.toArray 44)) (zs := [cs]) (k := 29) (fun z hz => by rw [List.mem_singleton.1 hz]; exact hI.s.len) (by rw [show [cs].flatten = cs by simp]; exact hR3) hR3.lt
  have cF := few30_any [(kd, vs, cs)] _ 1 1 _ hrs (fun s hs => by rw [List.mem_singleton.1 hs]; exact hI.keep hB2) (by decide)
  have q1 := hR1.range
  have i4 := st_in9 cs hI.s.len
  have i5 := st_in9' cs hI.s.len
  have hl29 := hI.s.len
  have hone := hI.s.one
  have hfill : Instr.fill (fun j => some (j * i0.size, i0.size)) ((Array.range (1 * i0.size)).map ((Value.agg (stZ 0).toArray).cells[· % (Value.agg (stZ 0).toArray).cells.size]!)) [(0, .agg cs.toArray)] = some cs.toArray := by
    rw [hz1]; exact fill_one 29 _ _ (by simp) (by rw [List.size_toArray, hl29])
  obtain ⟨U2, hU2⟩ : ∃ x, (V.alloc (.cells cs.toArray 44)).alloc (.cells cs.toArray 44) = x := ⟨_, rfl⟩
  rw [hU2] at cF hR2 hB2
  replace cF := Lib.hid cF
  replace hB2 := Lib.hid hB2
  have hIh := Lib.hid hI
  have hEh := Lib.hid E
  have hGk := Lib.hid (fun W' (h : Below V.heap.size V W') => G.keep h)
  have hBl := Lib.hid (fun W' (h : Below U2.heap.size U2 W') => hB2.out.trans (h.mono hB2.out.size))
  clear hB1 hR1 hb2 hR3 hrs hI E G
  go_enter Tryz.func5, Tryz.ntmps5
  go_upto_region 1 with (refine wpList_box_row 44 _ rfl rfl cs.toArray rfl ?_)
  go_upto_region 3 with (first
    | (refine wpList_load_at 44 _ rfl rfl V.heap.size 0 rfl cs _ q1 Tryz.underlying44 rfl i4 ?_)
    | (refine wpList_buildSlice_as 46 44 1 _ rfl rfl i0 (.agg (stZ 0).toArray) cs.toArray Tryz.underlying46 hi0 hz0 (by rw [hz1]; decide) (by rw [hz1]; decide) hfill ?_
       simp only [World.size_alloc]
       rw [hU2])
    | (go_at_call 18; (with_reducible refine cF.out.mono ?_); rintro r w3 ⟨b, rfl, hb3, hf⟩
       have hB3 := Lib.hid (hBl.out w3 hb3)
       have hR4 := hR2.keep hb3
       replace hf := Lib.hid hf
       have hd := Lib.hid (cA.out w3 hB3.out)
       clear hb3
       cases b)
    | (go_at_call 9; (with_reducible refine hd.out.mono ?_); rintro r w4 ⟨rfl, hb4⟩; have hB4 := Lib.hid (hB3.out.trans (hb4.mono hB3.out.size)); clear hb4))
  · go_ret
    exact ⟨rfl, hB4.out⟩
  · have hFS : FewS vs := (hf.out (by trivial)).2 (kd, vs, cs) (List.mem_singleton.2 rfl)
    have hIw := hIh.out
    have q2 := hR4.range
    rcases line_bads cs kd vs V hEh.out hIw hFS with ⟨p, y, hy, hp10, cL, cR⟩ | ⟨k, rfl, hk9, hok, cL, cR⟩
    · have cL3 := Lib.hid (cL w3 hB3.out)
      have cR' := Lib.hid cR
      have cT := Lib.hid (fun W' e (h : Below V.heap.size V W') (hm : isErr W' (some 6) [p] e) => told_any 6 [p] e W' y (by decide) hy (by show 1 ≤ 20; decide) (by rw [spS_one, ByteArray.size_append]; have : (⟨#[32]⟩ : ByteArray).size = 1 := rfl; omega) hm (hGk.out W' h))
      clear hIw hFS hy hp10 hf cL cR q1 hfill
      go_upto_region 4 with (first
        | (refine wpList_load_at 44 _ rfl rfl V.heap.size 0 rfl cs _ q2 Tryz.underlying44 rfl i4 ?_)
        | (go_at_call 19; (with_reducible refine cL3.out.mono ?_); rintro r w4 ⟨e, rfl, hm4, hb4⟩
           obtain ⟨T9, u9, rfl⟩ := isErr_some hm4
           have hB4 := Lib.hid (hB3.out.trans (hb4.mono hB3.out.size))
           have hR5 := hR4.keep hb4
           have q3 := hR5.range
           replace hm4 := Lib.hid hm4
           have cR4 := Lib.hid (cR'.out w4 hB4.out)
           clear hb4))
      go_upto_region 5 with (first
        | (refine wpList_load_at 44 _ rfl rfl V.heap.size 0 rfl cs _ q3 Tryz.underlying44 rfl i4 ?_)
        | (go_at_call 20; (with_reducible refine cR4.out.mono ?_); rintro r w5 ⟨rfl, hb5⟩
           have hB5 := hB4.out.trans (hb5.mono hB4.out.size)
           have hz5 := heap_new w5 (.cells erZ 53)
           have hE5 : Row ((w5.alloc (.cells erZ 53)).setRow w5.heap.size [.int .i64 6, .string y].toArray) w5.heap.size 53 [.int .i64 6, .string y] := Row.setRow (show Row (w5.alloc (.cells erZ 53)) w5.heap.size 53 erL from heap_new w5 _) _
           have hb6 := below_setRow (below_new w5 (.cells erZ 53)) (Nat.le_refl _) [.int .i64 6, .string y].toArray
           have hB6 := Lib.hid (hB5.trans (hb6.mono hB5.size))
           have hm6 := Lib.hid (hm4.out.keep (hb5.trans (hb6.mono hb5.size)))
           have hc6 := hE5.cell (off := 0) (v := .int .i64 6) rfl
           clear hb5 hb6 hB5)
        | (refine wpList_alloc_row 53 rfl rfl erZ er_zero ?_)
        | (refine wpList_store_at 53 _ _ rfl rfl w5.heap.size #[.int .i64 6, .string y] rfl rfl 53 erZ hz5 (by kernel_rfl) rfl (by simp [Value.oneCell']) ?_))
      generalize (w5.alloc (.cells erZ 53)).setRow w5.heap.size [.int .i64 6, .string y].toArray = w6 at *
      generalize w5.heap.size = p6 at *
      have hd6 := Lib.hid (cA.out w6 hB6.out)
      have hpl6 := hE5.lt
      clear hz5
      go_wp2_with (first
        | (go_at_call 9; (with_reducible refine hd6.out.mono ?_); rintro r w7 ⟨rfl, hb7⟩
           have hB7 := Lib.hid (hB6.out.trans (hb7.mono hB6.out.size))
           have q7 := (hE5.keep hb7).range
           have cT7 := Lib.hid (cT.out w7 _ hB7.out (hm6.out.keep hb7))
           clear hb7)
        | (refine wpList_load_at 53 _ rfl rfl p6 0 rfl [.int .i64 6, .string y] _ q7 Tryz.underlying53 rfl (by kernel_rfl) ?_)
        | (go_at_call 21; (with_reducible refine cT7.out.mono ?_); rintro r w8 ⟨rfl, hb8⟩; have hB8 := Lib.hid (hB7.out.trans (hb8.mono hB7.out.size)); clear hb8))
      go_ret
      exact ⟨rfl, hB8.out⟩
    · have hmx := line_max hk9 (hFS.small hIw.t)
      have hgl : ∀ l, vs[18]? = some (.grants l) → ∀ g ∈ l, g.user.length ≤ 281474976710656 := fun l h g hg => by have := (hFS.c.gr l h).2 g hg; omega
      have hol : ∀ l, vs[3]? = some (.ops l) → ∀ o ∈ l, o.s.length ≤ 281474976710656 := fun l h o ho => by have := (hFS.op l h).2 o ho; omega
      have hrl := rdLine_wr hk9 hok
      have cP := Lib.hid (fun W' (h : Below V.heap.size V W') => (read_line (bs (lineX k vs)) W' (hEh.out.keep h hEh.out.size) (by rw [bs_size]; omega)).mono (fun (r : Ending) (w' : World) h => (by
        rw [bs_list] at h
        rcases h with ⟨k', vs', ds, h1, h2, h3, _, h4⟩ | ⟨b, e, h1, _⟩
        · rw [hrl] at h1; injection h1 with e1 e2; subst e1 e2; exact ⟨ds, h2, h3, h4⟩
        · exact (nomatch (hrl.symm.trans h1)) : ∃ ds : List Value, r = Ending.returned (.tuple #[.agg ds.toArray, .nilIface]) ∧ StC w' k vs ds ∧ Below W'.heap.size W' w')))
      have cS := Lib.hid (fun W' ds (h : Below V.heap.size V W') (hT : StC W' k vs ds) => same35_any cs ds k vs W' (hIw.s.keep h) hT hok hgl hol)
      have cL3 := Lib.hid (cL w3 hB3.out)
      have cR' := Lib.hid cR
      generalize bs (lineX k vs) = yl at *
      clear hFS hf cL cR q1 hfill hmx hgl hol hrl hIw
      go_upto_region 4 with (first
        | (refine wpList_load_at 44 _ rfl rfl V.heap.size 0 rfl cs _ q2 Tryz.underlying44 rfl i4 ?_)
        | (go_at_call 19; (with_reducible refine cL3.out.mono ?_); rintro r w4 ⟨rfl, hb4⟩
           have hB4 := Lib.hid (hB3.out.trans (hb4.mono hB3.out.size))
           have hR5 := hR4.keep hb4
           have q3 := hR5.range
           have cR4 := Lib.hid (cR'.out w4 hB4.out)
           clear hb4))
      go_upto_region 5 with (first
        | (refine wpList_load_at 44 _ rfl rfl V.heap.size 0 rfl cs _ q3 Tryz.underlying44 rfl i4 ?_)
        | (go_at_call 20; (with_reducible refine cR4.out.mono ?_); rintro r w5 ⟨rfl, hb5⟩
           have hB5 := hB4.out.trans (hb5.mono hB4.out.size)
           have hz5 := heap_new w5 (.cells erZ 53)
           have hE5 : Row ((w5.alloc (.cells erZ 53)).setRow w5.heap.size erL.toArray) w5.heap.size 53 erL := Row.setRow (show Row (w5.alloc (.cells erZ 53)) w5.heap.size 53 erL from heap_new w5 _) _
           have hb6 := below_setRow (below_new w5 (.cells erZ 53)) (Nat.le_refl _) erL.toArray
           have hB6 := Lib.hid (hB5.trans (hb6.mono hB5.size))
           have hR6 := Lib.hid (hR5.keep (hb5.trans (hb6.mono hb5.size)))
           have hc6 := hE5.cell (off := 0) (v := .int .i64 0) rfl
           clear hb5 hb6 hB5)
        | (refine wpList_alloc_row 53 rfl rfl erZ er_zero ?_)
        | (refine wpList_store_at 53 _ _ rfl rfl w5.heap.size erL.toArray rfl rfl 53 erZ hz5 (by kernel_rfl) rfl (by decide +kernel) ?_))
      generalize (w5.alloc (.cells erZ 53)).setRow w5.heap.size erL.toArray = w6 at *
      generalize w5.heap.size = p6 at *
      have cP6 := Lib.hid (cP.out w6 hB6.out)
      clear hz5 hE5
      go_upto_region 8 with (first
        | (go_at_call 22; (with_reducible refine cP6.out.mono ?_); rintro r w7 ⟨ds, rfl, hm7, hb7⟩
           have hz7 := heap_new w7 (.cells (stZ 0).toArray 44)
           obtain ⟨hR7, hb8⟩ := lay_step w7 (ds := ds) hm7.len
           have j1 := st_in9' ds hm7.len
           have j2 := st_old ds hm7.len
           have j3 := hm7.one
           have j4 := st_in9 ds hm7.len
           have hb9 := hb7.trans (hb8.mono hb7.size)
           have hB8 := Lib.hid (hB6.out.trans (hb9.mono hB6.out.size))
           have hm8 := Lib.hid (hm7.keep hb8)
           have hR8 := hR6.out.keep hb9
           clear hb7 hb8 hb9 hm7)
        | (refine wpList_alloc_row 44 rfl rfl (stZ 0).toArray st_zero ?_)
        | (refine wpList_store_at 44 _ _ rfl rfl w7.heap.size ds.toArray rfl rfl 44 (stZ 0).toArray hz7 j1 j2 j3 ?_))
      generalize (w7.alloc (.cells (stZ 0).toArray 44)).setRow w7.heap.size ds.toArray = w8 at *
      generalize w7.heap.size = p8 at *
      have hd8 := Lib.hid (cA.out w8 hB8.out)
      clear hz7
      go_wp2_with (first
        | (go_at_call 9; (with_reducible refine hd8.out.mono ?_); rintro r w9 ⟨rfl, hb9⟩
           have hB9 := Lib.hid (hB8.out.trans (hb9.mono hB8.out.size))
           have q9 := (hR8.keep hb9).range
           have q10 := (hR7.keep hb9).range
           have cS9 := Lib.hid (cS.out w9 ds hB9.out (hm8.out.keep hb9))
           clear hb9)
        | (refine wpList_load_at 44 _ rfl rfl V.heap.size 0 rfl cs _ q9 Tryz.underlying44 rfl i4 ?_)
        | (refine wpList_load_at 44 _ rfl rfl p8 0 rfl ds _ q10 Tryz.underlying44 rfl j4 ?_)
        | (go_at_call 23; (with_reducible refine cS9.out.mono ?_); rintro r w10 ⟨rfl, hb10⟩; have hB10 := Lib.hid (hB9.out.trans (hb10.mono hB9.out.size)); clear hb10))
      go_ret
      exact ⟨by simp, hB10.out⟩
end

section
open Go Go.RowKit Go.Shelf Go.ChangeShapes Go.WideShapes Go.Deep

set_option maxRecDepth 100000 in
theorem open_step {H : Type} {enc : TypeId × Value → H} {w : World} {base : Nat} {spare : Nat → Bool} {held : Bool} {r : Reach} {b0 : Nat} {v : Value} {d : DataW H} {ps : List MemPlace}
    (hv : Value.okWide Tryz.prog w r b0 44 v) (h : DataW.Trod enc Tryz.prog w base spare held 44 v d ps) :
    ∃ (cs : List Value) (kd : Int) (vs : List PV), v = .agg cs.toArray ∧ StI w kd vs cs := by
  obtain ⟨fs, hu⟩ : ∃ fs, Tryz.prog.underlying 44 = some (.struct fs) := ⟨_, Tryz.underlying44⟩
  obtain ⟨cs, rfl, hsz⟩ := okWide_struct hu hv
  obtain ⟨fuel, hf⟩ := h
  have hcs : (Value.agg cs).cells.toList = cs.toList := by simp [Value.cells]
  rw [hcs] at hf
  obtain ⟨kd, vs, h1, h2, h3⟩ := st_of_trod hf
  exact ⟨cs.toList, kd, vs, by simp, h1, h2, h3⟩
end
end Go.Proofs.YtmicohmbmgbnkaaGreatDoor
