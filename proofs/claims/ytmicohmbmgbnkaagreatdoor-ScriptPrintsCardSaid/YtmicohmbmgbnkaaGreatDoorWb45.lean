/- Texts joined: what each shows stands ahead of its theorems. -/
import Derived.Test.YtmicohmbmgbnkaaGreatDoorWb44
import Derived.Test.YtmicohmbmgbnkaaGreatDoorWb41
import Derived.Maps.AppendAt
namespace Go.Proofs.YtmicohmbmgbnkaaGreatDoor
section
open Go Go.RowKit Go.Shelf Go.ChangeShapes Go.WideShapes Go.Deep

structure FewS (vs : List PV) : Prop where
  c : FewC vs
  tx : ∀ s, vs[2]? = some (.text s) → s.length ≤ 300
  cu : ∀ l, vs[4]? = some (.nums l) → l.length ≤ 20
  op : ∀ l, vs[3]? = some (.ops l) → l.length ≤ 70 ∧ ∀ o ∈ l, o.s.length ≤ 2000
structure StI (W : World) (kd : Int) (vs : List PV) (cs : List Value) : Prop where
  s : StC W kd vs cs
  t : TyVs keyT vs
  b : ∀ v ∈ vs, BigPV v
theorem StI.keep {W W' : World} {kd : Int} {vs : List PV} {cs : List Value} (h : StI W kd vs cs) (hb : Below W.heap.size W W') : StI W' kd vs cs := ⟨h.s.keep hb, h.t, h.b⟩
theorem joinL_bound {c : UInt8} {M : Nat} : ∀ {ps : List (List UInt8)}, (∀ p ∈ ps, p.length ≤ M) → (joinL c ps).length ≤ ps.length * (M + 1)
  | [], _ => Nat.zero_le _
  | [p], h => by have := h p List.mem_cons_self; show p.length ≤ _; simp; omega
  | p :: q :: r, h => by
    have h1 := h p List.mem_cons_self
    have h2 := joinL_bound (c := c) (ps := q :: r) fun x hx => h x (List.mem_cons_of_mem _ hx)
    rw [joinL_cons (by simp), List.length_append, List.length_cons, List.length_cons, Nat.succ_mul]
    omega
theorem list_bound {α : Type} {f : α → List UInt8} {l : List α} {n M : Nat} (hn : l.length ≤ n) (h : ∀ x ∈ l, (f x).length ≤ M) : (joinL 44 (l.map f)).length ≤ n * (M + 1) := by
  have := joinL_bound (c := 44) (ps := l.map f) (M := M) fun p hp => by obtain ⟨x, hx, rfl⟩ := List.mem_map.1 hp; exact h x hx
  rw [List.length_map] at this
  exact Nat.le_trans this (Nat.mul_le_mul_right _ hn)
theorem wrName_b {s : List UInt8} {M : Nat} (h : s.length ≤ M) : (wrName s).length ≤ 3 * M + 1 := by
  unfold wrName
  split
  · simp
  · have := escL_len s; omega
theorem FewS.small {vs : List PV} (h : FewS vs) (hok : TyVs keyT vs) : ∀ v ∈ vs, (wrPV v).length ≤ 1000000 := by
  intro v hv
  obtain ⟨i, hi, rfl⟩ := List.getElem_of_mem hv
  have hg := List.getElem?_eq_getElem hi
  have h26 : i < 26 := by rw [hok.len, keyT_len] at hi; exact hi
  generalize vs[i] = v at hg
  have num : ∀ n, v = .num n → I64 n → (wrPV v).length ≤ 1000000 := fun n e hn => by
    rw [e]; dsimp only [wrPV]; split
    · exact Nat.zero_le _
    · have := itoa_len20 hn; omega
  have nums : ∀ l, v = .nums l → l.length ≤ 20 → (∀ n ∈ l, I64 n) → (wrPV v).length ≤ 1000000 := fun l e hl hn => by
    rw [e]; have := list_bound (f := Go.Lib.itoa) (M := 20) hl fun n h => itoa_len20 (hn n h); dsimp only [wrPV]; omega
  have text : ∀ s, v = .text s → s.length ≤ 300 → (wrPV v).length ≤ 1000000 := fun s e hs => by
    rw [e]; have := escL_len s; dsimp only [wrPV]; omega
  have flag : ∀ b, v = .flag b → (wrPV v).length ≤ 1000000 := fun b e => by
    rw [e]; cases b
    · exact Nat.zero_le _
    · show 1 ≤ _; omega
  have texts : ∀ l, v = .texts l → l.length ≤ 20 → (∀ s ∈ l, s.length ≤ 300) → (wrPV v).length ≤ 1000000 := fun l e hl hn => by
    rw [e]; have := list_bound (f := wrName) (M := 901) hl fun n h => wrName_b (hn n h); dsimp only [wrPV]; omega
  have prf : ∀ l, v = .texts l → 8 ≤ i → i < 16 → (wrPV v).length ≤ 1000000 := fun l e h8 h16 => by
    rw [e] at hg
    obtain ⟨p1, p2⟩ := h.c.pr i l h8 h16 hg
    exact texts l e p1 fun s hs => Nat.le_trans (p2 s hs) (by decide)
  match i, h26 with
  | 0, _ =>
    have ho := hok.at (i := 0) rfl hg
    cases v <;> first | exact absurd ho id | skip
    exact num _ rfl ho
  | 1, _ =>
    have ho := hok.at (i := 1) rfl hg
    cases v <;> first | exact absurd ho id | skip
    exact num _ rfl ho
  | 2, _ =>
    have ho := hok.at (i := 2) rfl hg
    cases v <;> first | exact absurd ho id | skip
    exact text _ rfl (h.tx _ hg)
  | 3, _ =>
    have ho := hok.at (i := 3) rfl hg
    cases v <;> first | exact absurd ho id | skip
    obtain ⟨p1, p2⟩ := h.op _ hg
    have := list_bound (f := wrOp) (M := 10000) p1 fun o ho9 => by
      have h1 := escL_len o.s
      have h2 := p2 o ho9
      obtain ⟨q3, q4, q5⟩ := ho o ho9
      have h3 := itoa_len20 q3
      have h4 := itoa_len20 q4
      have h5 := itoa_len20 q5
      have h6 : ∀ k : Fin 15, (opW.getD k.1 []).length ≤ 10 := by decide +kernel
      have h7 : (opW.getD o.kind.toNat []).length ≤ 10 := by
        by_cases hk : o.kind.toNat < 15
        · exact h6 ⟨o.kind.toNat, hk⟩
        · rw [List.getD_eq_getElem?_getD, List.getElem?_eq_none (by show 15 ≤ _; omega)]; exact Nat.zero_le _
      have h8 := joinL_bound (c := 58) (M := 6000) (ps := [opW.getD o.kind.toNat [], Go.Lib.itoa o.a, Go.Lib.itoa o.b, Go.Lib.itoa o.c, escL o.s]) fun p hp => by
        simp only [List.mem_cons, List.not_mem_nil, or_false] at hp
        rcases hp with rfl | rfl | rfl | rfl | rfl <;> omega
      have h9 : (wrOp o).length = (joinL 58 [opW.getD o.kind.toNat [], Go.Lib.itoa o.a, Go.Lib.itoa o.b, Go.Lib.itoa o.c, escL o.s]).length := rfl
      have h10 : (joinL 58 [opW.getD o.kind.toNat [], Go.Lib.itoa o.a, Go.Lib.itoa o.b, Go.Lib.itoa o.c, escL o.s]).length ≤ 10000 := by
        simp only [joinL, List.length_append, List.length_cons]
        omega
      omega
    dsimp only [wrPV]
    omega
  | 4, _ =>
    have ho := hok.at (i := 4) rfl hg
    cases v <;> first | exact absurd ho id | skip
    exact nums _ rfl (h.cu _ hg) ho
  | 5, _ =>
    have ho := hok.at (i := 5) rfl hg
    cases v <;> first | exact absurd ho id | skip
    exact flag _ rfl
  | 6, _ =>
    have ho := hok.at (i := 6) rfl hg
    cases v <;> first | exact absurd ho id | skip
    exact text _ rfl (h.c.tx 6 _ (by simp) hg)
  | 7, _ =>
    have ho := hok.at (i := 7) rfl hg
    cases v <;> first | exact absurd ho id | skip
    exact text _ rfl (h.c.tx 7 _ (by simp) hg)
  | 8, _ =>
    have ho := hok.at (i := 8) rfl hg
    cases v <;> first | exact absurd ho id | skip
    exact prf _ rfl (by decide) (by decide)
  | 9, _ =>
    have ho := hok.at (i := 9) rfl hg
    cases v <;> first | exact absurd ho id | skip
    exact prf _ rfl (by decide) (by decide)
  | 10, _ =>
    have ho := hok.at (i := 10) rfl hg
    cases v <;> first | exact absurd ho id | skip
    exact prf _ rfl (by decide) (by decide)
  | 11, _ =>
    have ho := hok.at (i := 11) rfl hg
    cases v <;> first | exact absurd ho id | skip
    exact prf _ rfl (by decide) (by decide)
  | 12, _ =>
    have ho := hok.at (i := 12) rfl hg
    cases v <;> first | exact absurd ho id | skip
    exact prf _ rfl (by decide) (by decide)
  | 13, _ =>
    have ho := hok.at (i := 13) rfl hg
    cases v <;> first | exact absurd ho id | skip
    exact prf _ rfl (by decide) (by decide)
  | 14, _ =>
    have ho := hok.at (i := 14) rfl hg
    cases v <;> first | exact absurd ho id | skip
    exact prf _ rfl (by decide) (by decide)
  | 15, _ =>
    have ho := hok.at (i := 15) rfl hg
    cases v <;> first | exact absurd ho id | skip
    exact prf _ rfl (by decide) (by decide)
  | 16, _ =>
    have ho := hok.at (i := 16) rfl hg
    cases v <;> first | exact absurd ho id | skip
    exact texts _ rfl (h.c.al _ hg).1 (h.c.al _ hg).2
  | 17, _ =>
    have ho := hok.at (i := 17) rfl hg
    cases v <;> first | exact absurd ho id | skip
    exact num _ rfl ho
  | 18, _ =>
    have ho := hok.at (i := 18) rfl hg
    cases v <;> first | exact absurd ho id | skip
    obtain ⟨p1, p2⟩ := h.c.gr _ hg
    have := list_bound (f := wrGr) (M := 1000) p1 fun g hg9 => by
      have h1 := escL_len g.user
      have h2 := p2 g hg9
      have h3 := itoa_len20 (ho g hg9)
      show (joinL 58 [escL g.user, Go.Lib.itoa g.who]).length ≤ _
      rw [joinL_cons (by simp), show joinL 58 [Go.Lib.itoa g.who] = Go.Lib.itoa g.who from rfl, List.length_append, List.length_cons]
      omega
    dsimp only [wrPV]
    omega
  | 19, _ =>
    have ho := hok.at (i := 19) rfl hg
    cases v <;> first | exact absurd ho id | skip
    exact num _ rfl ho
  | 20, _ =>
    have ho := hok.at (i := 20) rfl hg
    cases v <;> first | exact absurd ho id | skip
    exact num _ rfl ho
  | 21, _ =>
    have ho := hok.at (i := 21) rfl hg
    cases v <;> first | exact absurd ho id | skip
    exact text _ rfl (h.c.tx 21 _ (by simp) hg)
  | 22, _ =>
    have ho := hok.at (i := 22) rfl hg
    cases v <;> first | exact absurd ho id | skip
    exact nums _ rfl (h.c.ks _ hg) ho
  | 23, _ =>
    have ho := hok.at (i := 23) rfl hg
    cases v <;> first | exact absurd ho id | skip
    exact flag _ rfl
  | 24, _ =>
    have ho := hok.at (i := 24) rfl hg
    cases v <;> first | exact absurd ho id | skip
    exact flag _ rfl
  | 25, _ =>
    have ho := hok.at (i := 25) rfl hg
    cases v <;> first | exact absurd ho id | skip
    have h1 := itoa_len20 (i64_nat ho.1)
    have h2 := itoa_len20 (i64_nat ho.2.1)
    have h3 := itoa_len20 (i64_nat ho.2.2)
    dsimp only [wrPV]
    split
    · exact Nat.zero_le _
    · simp only [joinL, List.length_append, List.length_cons]
      omega
  | i + 26, h26 => exact absurd h26 (by omega)
end

section
open Go Go.RowKit Go.Shelf Go.ChangeShapes Go.WideShapes Go.Deep

set_option maxRecDepth 100000 in
set_option maxHeartbeats 8000000 in
theorem few30_any (SL : List (Int × List PV × List Value)) (A : Option Addr) (n c : Nat) (V : World) (H : Rws V 29 A n (SL.map fun s => s.2.2)) (hI : ∀ s ∈ SL, StI V s.1 s.2.1 s.2.2) (hn63 : n ≤ 9223372036854775807) :
    Calls Tryz.prog 18 #[.slice A n c] V fun r w' => ∃ b, r = .returned (.bool b) ∧ Below V.heap.size V w' ∧ (b = true → n ≤ 40 ∧ ∀ s ∈ SL, FewS s.2.1) := by
  have hnl : SL.length = n := by have := H.1; simpa using this
  by_cases h40 : 40 < n
  · have k40 : (40 : Int) < (n : Int) := by omega
    go_enter Tryz.func18, Tryz.ntmps18
    go_wp2_with fail
    go_ret
    exact ⟨false, rfl, Below.refl _ _, fun h => by cases h⟩
  have k40 : ¬ (40 : Int) < (n : Int) := by omega
  have hnl' := Lib.hid hnl
  have hH := Lib.hid H
  have hIh := Lib.hid hI
  clear hnl H hI
  go_enter Tryz.func18, Tryz.ntmps18
  go_wp2_with fail
  go_loopw [3] (fun jv wr => ∃ i : Nat, i ≤ n ∧ jv = .int .i64 i ∧ Hid (∀ (j : Nat) s, j < i → SL[j]? = some s → FewS s.2.1) ∧ Hid (Below V.heap.size V wr)) (fun jv _ => n - (intOf jv).toNat)
  case atStart => exact ⟨0, Nat.zero_le _, rfl, Lib.hid (fun j s h => absurd h (Nat.not_lt_zero _)), Lib.hid (Below.refl _ _)⟩
  case round =>
    obtain ⟨i, hi, rfl, hA9, hBr⟩ := hrel
    generalize wr = wv at *
    by_cases hlt2 : i < n
    · have hlt' : (i : Int) < (n : Int) := by omega
      have h0i : (0 : Int) ≤ (i : Int) := Int.natCast_nonneg _
      obtain ⟨b2, off2, z2, rfl, hb2, hz2, hz29, hr2⟩ := Rws.row (hH.out.keep hBr.out) hlt2
      obtain ⟨x, hx, rfl⟩ := map_at hz2
      obtain ⟨kd, vs, cs⟩ := x
      have hI := hIh.out _ (List.mem_of_getElem? hx)
      dsimp only at hI hr2
      have hty := hI.t
      have hS := hI.s
      have hbg := hI.b
      obtain ⟨tx, htx⟩ := text_ty hty 2 (by decide) rfl
      obtain ⟨cu, hcu⟩ := nums_ty hty 4 (by decide) rfl
      obtain ⟨os, hos, _, _⟩ := hty.ops
      have ctx : cs[26]? = some (.string (bs tx)) := cell_of hS htx rfl (fun z h => by have e : z = _ := h; rw [e]; rfl)
      obtain ⟨sAk, sck, sks, _, _, _⟩ := slice_of (K := 1) (zs := cu.map iv) hS hcu rfl (fun z h => h)
      obtain ⟨sAo, sco, sos, _, _, soR⟩ := slice_of (K := 5) (zs := os.map OpX.row) hS hos rfl (fun z h => h)
      simp only [List.length_map] at sks sos soR
      have hbt : tx.length ≤ 9223372036854775807 := hbg _ (List.mem_of_getElem? htx)
      have hbo : ∀ o ∈ os, o.s.length ≤ 9223372036854775807 := hbg _ (List.mem_of_getElem? hos)
      have hfl : ((cs.drop 2).take 23).length = 23 := by rw [List.length_take, List.length_drop, hS.len]; decide
      have hmid : wv.rangeAt b2 (off2 + i * 29 + 2) ((cs.drop 2).take 23) := fun j v hj => by
        have hj2 : j < 23 := by have := (List.getElem?_eq_some_iff.1 hj).1; omega
        rw [List.getElem?_take, if_pos hj2, List.getElem?_drop] at hj
        have := hr2 (2 + j) v hj
        rwa [show off2 + i * 29 + (2 + j) = off2 + i * 29 + 2 + j by omega] at this
      have c26 : wv.cell? ⟨b2, off2 + i * 29 + 26, none⟩ = some (.string (bs tx)) := hr2 26 _ ctx
      have c28 : wv.cell? ⟨b2, off2 + i * 29 + 28, none⟩ = some (.slice sAk cu.length sck) := hr2 28 _ sks
      have c27 : wv.cell? ⟨b2, off2 + i * 29 + 27, none⟩ = some (.slice sAo os.length sco) := hr2 27 _ sos
      have hCl := Lib.hid (fun W' (h : Below wv.heap.size wv W') => And.intro ((h.cell (p := ⟨b2, off2 + i * 29 + 26, none⟩) hb2).trans c26) (And.intro ((h.cell (p := ⟨b2, off2 + i * 29 + 28, none⟩) hb2).trans c28) ((h.cell (p := ⟨b2, off2 + i * 29 + 27, none⟩) hb2).trans c27)))
      have c25 := Lib.hid (few25_any cs kd vs wv (hS.keep hBr.out) hty hbg)
      have hEnd : Hid (FewC vs → tx.length ≤ 300 → cu.length ≤ 20 → os.length ≤ 70 → (∀ o ∈ os, o.s.length ≤ 2000) → ∀ (j : Nat) s, j < i + 1 → SL[j]? = some s → FewS s.2.1) := Lib.hid (fun q1 q2 q3 q4 q5 j s hj hs => by
        by_cases e : j = i
        · rw [e, hx] at hs
          injection hs with hs
          rw [← hs]
          refine ⟨q1, fun s hs => ?_, fun l hl => ?_, fun l hl => ?_⟩
          · rw [htx] at hs; injection hs with hs; injection hs with hs; subst hs; exact q2
          · rw [hcu] at hl; injection hl with hl; injection hl with hl; subst hl; exact q3
          · rw [hos] at hl; injection hl with hl; injection hl with hl; subst hl; exact ⟨q4, q5⟩
        · exact hA9.out j s (by omega) hs)
      have hzt : (bs tx).size = tx.length := bs_size _
      have hcfi := cf_in9 _ hfl
      obtain ⟨nc, hnc⟩ : ∃ nc, cu.length = nc := ⟨_, rfl⟩
      obtain ⟨no, hno⟩ : ∃ no, os.length = no := ⟨_, rfl⟩
      rw [hnc] at hCl hEnd
      rw [hno] at hCl hEnd soR
      rw [← hzt] at hEnd hbt
      have soR9 := Lib.hid (soR.keep hBr.out)
      replace hbo := Lib.hid hbo
      replace hno := Lib.hid hno
      generalize bs tx = yt at *
      generalize (cs.drop 2).take 23 = cf at *
      clear hz2 hx hr2 hzt hA9 hI hS hbg hty c26 c27 c28 soR hz29 hnc htx hcu hos ctx sks sos hfl
      by_cases h1 : 300 < yt.size
      · have kh1 : (300 : Int) < (yt.size : Int) := by omega
        go_wp2_with (first
          | (refine wpList_load_at 41 _ rfl rfl b2 (off2 + i * 29 + 2) rfl cf _ hmid Tryz.underlying41 rfl hcfi ?_)
          | (go_at_call 39; (with_reducible refine c25.out.mono ?_); rintro r w5 ⟨b1, rfl, hb5, hf⟩
             obtain ⟨d26, d28, d27⟩ := hCl.out w5 hb5
             have hB5 := Lib.hid (hBr.out.trans (hb5.mono hBr.out.size))
             replace hf := Lib.hid hf
             replace hb5 := Lib.hid hb5
             cases b1))
        all_goals
          go_ret
          exact ⟨false, rfl, hB5.out, fun h => by cases h⟩
      have kh1 : ¬ (300 : Int) < (yt.size : Int) := by omega
      by_cases h2 : 20 < nc
      · have kh2 : (20 : Int) < (nc : Int) := by omega
        go_wp2_with (first
          | (refine wpList_load_at 41 _ rfl rfl b2 (off2 + i * 29 + 2) rfl cf _ hmid Tryz.underlying41 rfl hcfi ?_)
          | (go_at_call 39; (with_reducible refine c25.out.mono ?_); rintro r w5 ⟨b1, rfl, hb5, hf⟩
             obtain ⟨d26, d28, d27⟩ := hCl.out w5 hb5
             have hB5 := Lib.hid (hBr.out.trans (hb5.mono hBr.out.size))
             replace hf := Lib.hid hf
             replace hb5 := Lib.hid hb5
             cases b1))
        all_goals
          go_ret
          exact ⟨false, rfl, hB5.out, fun h => by cases h⟩
      have kh2 : ¬ (20 : Int) < (nc : Int) := by omega
      by_cases h3 : 70 < no
      · have kh3 : (70 : Int) < (no : Int) := by omega
        go_wp2_with (first
          | (refine wpList_load_at 41 _ rfl rfl b2 (off2 + i * 29 + 2) rfl cf _ hmid Tryz.underlying41 rfl hcfi ?_)
          | (go_at_call 39; (with_reducible refine c25.out.mono ?_); rintro r w5 ⟨b1, rfl, hb5, hf⟩
             obtain ⟨d26, d28, d27⟩ := hCl.out w5 hb5
             have hB5 := Lib.hid (hBr.out.trans (hb5.mono hBr.out.size))
             replace hf := Lib.hid hf
             replace hb5 := Lib.hid hb5
             cases b1))
        all_goals
          go_ret
          exact ⟨false, rfl, hB5.out, fun h => by cases h⟩
      have kh3 : ¬ (70 : Int) < (no : Int) := by omega
      go_upto_region 8 with (first
        | (refine wpList_load_at 41 _ rfl rfl b2 (off2 + i * 29 + 2) rfl cf _ hmid Tryz.underlying41 rfl hcfi ?_)
        | (go_at_call 39; (with_reducible refine c25.out.mono ?_); rintro r w5 ⟨b1, rfl, hb5, hf⟩
           obtain ⟨d26, d28, d27⟩ := hCl.out w5 hb5
           have hB5 := Lib.hid (hBr.out.trans (hb5.mono hBr.out.size))
           replace hf := Lib.hid hf
           replace hb5 := Lib.hid hb5
           cases b1))
      · go_wp2_with fail
        go_ret
        exact ⟨false, rfl, hB5.out, fun h => by cases h⟩
      · go_wp2_with fail
        go_loopw [4] (fun jv wq => ∃ k : Nat, k ≤ no ∧ jv = .int .i64 k ∧ Hid (∀ (j : Nat) o, j < k → os[j]? = some o → o.s.length ≤ 2000) ∧ Hid (Below wv.heap.size wv wq)) (fun jv _ => no - (intOf jv).toNat)
        case atStart => exact ⟨0, Nat.zero_le _, rfl, Lib.hid (fun j s h => absurd h (Nat.not_lt_zero _)), hb5⟩
        case round =>
          obtain ⟨k, hk, rfl, hO9, hBq⟩ := hrel
          obtain ⟨d26, d28, d27⟩ := hCl.out wr hBq.out
          have hBV := Lib.hid (hBr.out.trans (hBq.out.mono hBr.out.size))
          by_cases hlt3 : k < no
          · have hlk' : (k : Int) < (no : Int) := by omega
            have h0k : (0 : Int) ≤ (k : Int) := Int.natCast_nonneg _
            obtain ⟨b3, off3, z3, rfl, hb3, hz3, _, hr3⟩ := Rws.row (soR9.out.keep hBq.out) hlt3
            obtain ⟨y, hy, rfl⟩ := map_at hz3
            have hcl := hr3 4 _ rfl
            have hby := hbo.out y (List.mem_of_getElem? hy)
            have hzy : (bs y.s).size = y.s.length := bs_size _
            have hny : Hid (y.s.length ≤ 2000 → ∀ (j : Nat) o, j < k + 1 → os[j]? = some o → o.s.length ≤ 2000) := Lib.hid (fun h j o hj ho => by
              by_cases e : j = k
              · rw [e, hy] at ho; injection ho with ho; rw [← ho]; exact h
              · exact hO9.out j o (by omega) ho)
            rw [← hzy] at hny hby
            generalize bs y.s = yy at *
            clear hz3 hy hr3 hzy hO9
            by_cases hx3 : 2000 < yy.size
            · have kx : (2000 : Int) < (yy.size : Int) := by omega
              go_wp2_with fail
              go_ret
              exact ⟨false, rfl, hBV.out, fun h => by cases h⟩
            · have kx : ¬ (2000 : Int) < (yy.size : Int) := by omega
              have hn2 := Lib.hid (hny.out (by omega))
              clear hny
              go_wp2_with fail
              go_roundw
              case rel => exact ⟨k + 1, by omega, by go_num, hn2, hBq⟩
              case measure => simp [intOf]; omega
          · obtain rfl : k = no := by omega
            have hO8 : ∀ o ∈ os, o.s.length ≤ 2000 := fun o ho => by
              obtain ⟨j, hj, e⟩ := List.getElem_of_mem ho
              exact hO9.out j o (by have := hno.out; omega) (by rw [List.getElem?_eq_getElem hj, e])
            have hA8 := Lib.hid (hEnd.out (hf.out (by trivial)) (by omega) (by omega) (by omega) hO8)
            clear hO9 hO8
            go_wp2_with fail
            go_roundw
            case rel => exact ⟨i + 1, by omega, by go_num, hA8, hBV⟩
            case measure => simp [intOf]; omega
    · obtain rfl : i = n := by omega
      have hF9 : ∀ s ∈ SL, FewS s.2.1 := fun s hs => by
        obtain ⟨j, hj, e⟩ := List.getElem_of_mem hs
        exact hA9.out j s (by have := hnl'.out; omega) (by rw [List.getElem?_eq_getElem hj, e])
      have hF8 := Lib.hid hF9
      clear hF9 hA9
      go_wp2_with fail
      go_ret
      exact ⟨true, rfl, hBr.out, fun _ => ⟨by omega, hF8.out⟩⟩
end

section
open Go Go.RowKit Go.Shelf
open Go.Lib (itoa)

def erW : Array Value := #[.int .i64 6, .string ⟨#[119, 111, 114, 100, 32]⟩]
theorem erW_one : erW.all (·.oneCell') = true := by decide +kernel
set_option maxRecDepth 100000 in
set_option maxHeartbeats 4000000 in
theorem rline_word (cs : List Value) (k : Int) (vs : List PV) (w : World) (hS : StC w k vs cs) (hk : ¬ (0 ≤ k ∧ k < 9)) :
    Calls Tryz.prog 20 #[.agg cs.toArray] w fun r w' => r = .returned (.tuple #[.string ⟨#[]⟩, .agg erW]) ∧ Below w.heap.size w w' := by
  have hB1 := below_new w (.cells cs.toArray 44)
  have hb : Row (w.alloc (.cells cs.toArray 44)) w.heap.size 44 cs := heap_new w _
  have hB2 := below_new (w.alloc (.cells cs.toArray 44)) (.cells erZ 53)
  have hg2 := heap_new (w.alloc (.cells cs.toArray 44)) (.cells erZ 53)
  simp only [World.size_alloc] at hg2
  obtain ⟨W2, hW2⟩ : ∃ x, (w.alloc (.cells cs.toArray 44)).alloc (.cells erZ 53) = x := ⟨_, rfl⟩
  have hB := hB1.trans (hB2.mono hB1.size)
  have hblk := hb.keep hB2
  rw [hW2] at hB hg2 hblk
  have hc0 : W2.cell? ⟨w.heap.size, 0, none⟩ = some (.int .i64 k) := hblk.cell hS.kind
  replace hB := Lib.hid hB
  clear hS hB1 hb hB2 hblk
  by_cases h0 : k < 0
  · go_enter Tryz.func20, Tryz.ntmps20
    go_upto_region 1 with (first
      | (refine wpList_box_row 44 _ rfl rfl cs.toArray rfl ?_)
      | (refine wpList_alloc_row 53 rfl rfl erZ er_zero ?_; try simp only [World.size_alloc]))
    try rw [hW2]
    clear hW2
    go_wp2_with (first
      | (refine wpList_build_as 53 _ rfl rfl erW (by kernel_rfl) ?_)
      | (refine wpList_store_at 53 _ _ rfl rfl (w.heap.size + 1) erW rfl rfl 53 erZ hg2 (by kernel_rfl) rfl erW_one ?_))
    refine bodyPost_ret (results_tmp_cell rfl _ _ (w.heap.size + 1) 53 erW (0, 0) _ (.string ⟨#[]⟩) rfl (hsetRow _ _ _ _ _ _ hg2) Tryz.underlying53 rfl (by kernel_rfl) rfl) rfl ⟨rfl, below_setRow hB.out (Nat.le_succ _) _⟩
  · have h8 : 8 < k := by omega
    go_enter Tryz.func20, Tryz.ntmps20
    go_upto_region 1 with (first
      | (refine wpList_box_row 44 _ rfl rfl cs.toArray rfl ?_)
      | (refine wpList_alloc_row 53 rfl rfl erZ er_zero ?_; try simp only [World.size_alloc]))
    try rw [hW2]
    clear hW2
    go_wp2_with (first
      | (refine wpList_build_as 53 _ rfl rfl erW (by kernel_rfl) ?_)
      | (refine wpList_store_at 53 _ _ rfl rfl (w.heap.size + 1) erW rfl rfl 53 erZ hg2 (by kernel_rfl) rfl erW_one ?_))
    refine bodyPost_ret (results_tmp_cell rfl _ _ (w.heap.size + 1) 53 erW (0, 0) _ (.string ⟨#[]⟩) rfl (hsetRow _ _ _ _ _ _ hg2) Tryz.underlying53 rfl (by kernel_rfl) rfl) rfl ⟨rfl, below_setRow hB.out (Nat.le_succ _) _⟩
theorem line_bads (cs : List Value) (kd : Int) (vs : List PV) (W : World) (E : EnvS W) (hI : StI W kd vs cs) (hF : FewS vs) :
    (∃ (p y : ByteArray), y = spS [p] ∧ p.size ≤ 10 ∧ (∀ W', Below W.heap.size W W' → Calls Tryz.prog 19 #[.agg cs.toArray] W' (ErrOut (.string ⟨#[]⟩) 6 [p] W')) ∧ ∀ W', Below W.heap.size W W' → Calls Tryz.prog 20 #[.agg cs.toArray] W' fun r w' => r = .returned (.tuple #[.string ⟨#[]⟩, .agg #[.int .i64 6, .string y]]) ∧ Below W'.heap.size W' w') ∨
    (∃ k : Nat, kd = k ∧ k < 9 ∧ OkVs keyT vs ∧ (∀ W', Below W.heap.size W W' → Calls Tryz.prog 19 #[.agg cs.toArray] W' fun r w' => r = .returned (.tuple #[.string (bs (lineX k vs)), .nilIface]) ∧ Below W'.heap.size W' w') ∧ ∀ W', Below W.heap.size W W' → Calls Tryz.prog 20 #[.agg cs.toArray] W' fun r w' => r = .returned (.tuple #[.string (bs (lineX k vs)), .agg erZ]) ∧ Below W'.heap.size W' w') := by
  by_cases hk : 0 ≤ kd ∧ kd < 9
  · by_cases hb : ∃ o ∈ opsOf vs, ¬ okK o
    · refine .inl ⟨opsS, ⟨#[111, 112, 115, 32]⟩, by rw [spS_one]; rfl, by decide, fun W' h => ?_, fun W' h => rline_bad cs kd vs W' (hI.s.keep h) hI.t hb hk⟩
      refine (line_go cs kd vs W' (E.keep h E.size) (hI.s.keep h) hI.t hk (fun v hv => Nat.le_trans (hF.small hI.t v hv) (show 1000000 ≤ 1099511627776 by decide))).mono fun r w' hr => ?_
      rcases hr with ⟨_, he⟩ | ⟨hok, _⟩
      · exact he
      · exfalso
        obtain ⟨o, ho, hno⟩ := hb
        obtain ⟨l, hl3, hol3, _⟩ := hI.t.ops
        rw [hol3] at ho
        have := hok.at (i := 3) rfl hl3 o ho
        exact hno ⟨this.1, this.2.1⟩
    · have hok := hI.t.ok (fun o ho => Classical.byContradiction fun h => hb ⟨o, ho, h⟩)
      obtain ⟨k, rfl⟩ := Int.eq_ofNat_of_zero_le hk.1
      have hsz := fun v hv => Nat.le_trans (hF.small hI.t v hv) (show 1000000 ≤ 1099511627776 by decide)
      refine .inr ⟨k, rfl, by omega, hok, fun W' h => ?_, fun W' h => rline_good cs k vs W' (hI.s.keep h) hok hk hsz⟩
      refine (line_go cs k vs W' (E.keep h E.size) (hI.s.keep h) hI.t hk hsz).mono fun r w' hr => ?_
      rcases hr with ⟨h1, _⟩ | ⟨_, h2, h3⟩
      · exact absurd h1 hb
      · exact ⟨h2, h3⟩
  · exact .inl ⟨wordS, ⟨#[119, 111, 114, 100, 32]⟩, by rw [spS_one]; rfl, by decide, fun W' h => line_word cs kd vs W' (E.keep h E.size) (hI.s.keep h) hk, fun W' h => rline_word cs kd vs W' (hI.s.keep h) hk⟩
end

section
open Go Go.RowKit Go.Shelf
open Go.Lib (itoa)

theorem toks_max {M : Nat} : ∀ {ks : KT} {vs : List PV}, (∀ p ∈ ks, p.1.length ≤ 20) → (∀ v ∈ vs, (wrPV v).length ≤ M) → (tokens ks vs).length ≤ ks.length ∧ ∀ t ∈ tokens ks vs, t.length ≤ M + 21
  | [], [], _, _ => ⟨Nat.le_refl _, fun t h => by cases h⟩
  | [], _ :: _, _, _ => ⟨Nat.le_refl _, fun t h => by cases h⟩
  | _ :: _, [], _, _ => ⟨Nat.zero_le _, fun t h => by cases h⟩
  | (k, g) :: ks, v :: vs, hk, hv => by
    obtain ⟨h1, h2⟩ := toks_max (ks := ks) (vs := vs) (fun p hp => hk p (List.mem_cons_of_mem _ hp)) (fun p hp => hv p (List.mem_cons_of_mem _ hp))
    have k1 := hk (k, g) List.mem_cons_self
    have v1 := hv v List.mem_cons_self
    dsimp only at k1
    rw [tokens]
    split
    · exact ⟨Nat.le_succ_of_le h1, h2⟩
    · refine ⟨by simp; exact h1, fun t ht => ?_⟩
      rcases List.mem_cons.1 ht with rfl | ht
      · simp only [List.length_append, List.length_cons]; omega
      · exact h2 t ht
theorem key_len20 : ∀ p ∈ keyT, p.1.length ≤ 20 := by decide +kernel
theorem kw_len : ∀ k : Fin 9, (kindW.getD k.1 []).length ≤ 10 := by decide +kernel
theorem line_max {k : Nat} {vs : List PV} {M : Nat} (hk : k < 9) (hv : ∀ v ∈ vs, (wrPV v).length ≤ M) : (lineX k vs).length ≤ 27 * (M + 22) := by
  obtain ⟨h1, h2⟩ := toks_max key_len20 hv
  have h3 := kw_len ⟨k, hk⟩
  have h4 := joinL_bound (c := 32) (M := M + 21) (ps := kindW.getD k [] :: tokens keyT vs) fun p hp => by
    rcases List.mem_cons.1 hp with rfl | hp
    · dsimp only at h3; omega
    · exact h2 p hp
  rw [List.length_cons] at h4
  rw [keyT_len] at h1
  unfold lineX
  rw [Int.toNat_natCast]
  refine Nat.le_trans h4 ?_
  exact Nat.mul_le_mul (by omega) (Nat.le_refl _)
end

section
open Go Go.RowKit Go.Shelf
open Go.Lib (itoa)

def lnT (s : Int × List PV × List Value) : List UInt8 := lineX s.1 s.2.1
structure LnOk (W : World) (s : Int × List PV × List Value) : Prop where
  k : ∃ k : Nat, s.1 = k ∧ k < 9
  ok : OkVs keyT s.2.1
  len : (lnT s).length ≤ 27000594
  p : ∀ W', Below W.heap.size W W' → Calls Tryz.prog 19 #[.agg s.2.2.toArray] W' fun r w' => r = .returned (.tuple #[.string (bs (lnT s)), .nilIface]) ∧ Below W'.heap.size W' w'
  q : ∀ W', Below W.heap.size W W' → Calls Tryz.prog 20 #[.agg s.2.2.toArray] W' fun r w' => r = .returned (.tuple #[.string (bs (lnT s)), .agg erZ]) ∧ Below W'.heap.size W' w'
structure LnBad (W : World) (s : Int × List PV × List Value) (a : ByteArray) : Prop where
  len : a.size ≤ 10
  p : ∀ W', Below W.heap.size W W' → Calls Tryz.prog 19 #[.agg s.2.2.toArray] W' (ErrOut (.string ⟨#[]⟩) 6 [a] W')
  q : ∀ W', Below W.heap.size W W' → Calls Tryz.prog 20 #[.agg s.2.2.toArray] W' fun r w' => r = .returned (.tuple #[.string ⟨#[]⟩, .agg #[.int .i64 6, .string (spS [a])]]) ∧ Below W'.heap.size W' w'
structure LnP (W : World) (s : Int × List PV × List Value) : Prop where
  len : (lnT s).length ≤ 27000594
  p : ∀ W', Below W.heap.size W W' → Calls Tryz.prog 19 #[.agg s.2.2.toArray] W' fun r w' => r = .returned (.tuple #[.string (bs (lnT s)), .nilIface]) ∧ Below W'.heap.size W' w'
def ErP (W : World) (s : Int × List PV × List Value) (a : ByteArray) : Prop := ∀ W', Below W.heap.size W W' → Calls Tryz.prog 19 #[.agg s.2.2.toArray] W' (ErrOut (.string ⟨#[]⟩) 6 [a] W')
theorem LnOk.r {W : World} {s : Int × List PV × List Value} (h : LnOk W s) : LnP W s := ⟨h.len, h.p⟩
theorem ln_cases (W : World) (s : Int × List PV × List Value) (E : EnvS W) (hI : StI W s.1 s.2.1 s.2.2) (hF : FewS s.2.1) : LnOk W s ∨ ∃ p, LnBad W s p := by
  rcases line_bads s.2.2 s.1 s.2.1 W E hI hF with ⟨p, y, rfl, h1, h2, h3⟩ | ⟨k, e, hk, hok, h2, h3⟩
  · exact .inr ⟨p, h1, h2, h3⟩
  · have e2 : lnT s = lineX k s.2.1 := by unfold lnT; rw [e]
    rw [← e2] at h2 h3
    exact .inl ⟨⟨k, e, hk⟩, hok, by rw [e2]; have := line_max hk (hF.small hI.t); omega, h2, h3⟩
theorem lines_cases (W : World) : ∀ SL : List (Int × List PV × List Value), (∀ s ∈ SL, LnOk W s ∨ ∃ p, LnBad W s p) → ∃ (m : Nat) (p : ByteArray), m ≤ SL.length ∧ (∀ (j : Nat) s, j < m → SL[j]? = some s → LnOk W s) ∧ (m < SL.length → p.size ≤ 10 ∧ ∃ s, SL[m]? = some s ∧ LnBad W s p)
  | [], _ => ⟨0, ⟨#[]⟩, Nat.zero_le _, fun j s h => absurd h (Nat.not_lt_zero _), fun h => absurd h (Nat.not_lt_zero _)⟩
  | s :: SL, h => by
    rcases h s List.mem_cons_self with h1 | ⟨p, h1⟩
    · obtain ⟨m, p, i1, i2, i3⟩ := lines_cases W SL fun x hx => h x (List.mem_cons_of_mem _ hx)
      refine ⟨m + 1, p, Nat.succ_le_succ i1, fun j x hj hx => ?_, fun hm => i3 (Nat.lt_of_succ_lt_succ hm)⟩
      cases j with
      | zero => injection hx with hx; rw [← hx]; exact h1
      | succ j => exact i2 j x (Nat.lt_of_succ_lt_succ hj) hx
    · exact ⟨0, p, Nat.zero_le _, fun j s h => absurd h (Nat.not_lt_zero _), fun _ => ⟨h1.len, s, rfl, h1⟩⟩
theorem textX_snoc : ∀ (l : List (List UInt8)) (x : List UInt8), textX (l ++ [x]) = textX l ++ (x ++ [10])
  | [], x => rfl
  | y :: l, x => by rw [List.cons_append, textX, textX_snoc l x, textX]; simp
theorem textX_len {M : Nat} : ∀ {l : List (List UInt8)}, (∀ x ∈ l, x.length ≤ M) → (textX l).length ≤ l.length * (M + 1)
  | [], _ => Nat.zero_le _
  | y :: l, h => by
    have h1 := h y List.mem_cons_self
    have h2 := textX_len (l := l) fun x hx => h x (List.mem_cons_of_mem _ hx)
    rw [textX, List.length_append, List.length_cons, List.length_cons, Nat.succ_mul]
    omega
def scriptS : ByteArray := ⟨#[115, 99, 114, 105, 112, 116]⟩
theorem bs_nl (l : List UInt8) : bs l ++ (⟨#[10]⟩ : ByteArray) = bs (l ++ [10]) := by
  unfold bs
  show ByteArray.mk _ = _
  congr 1
theorem i64_small {m : Nat} (h : m ≤ 2000) : I64 ((m : Int) + 1) := ⟨by omega, by omega⟩
def PrR (m n : Nat) (SL : List (Int × List PV × List Value)) (p : ByteArray) (W : World) (r : Ending) (w' : World) : Prop := (m = n → r = .returned (.tuple #[.string (bs (textX (SL.map lnT))), .nilIface]) ∧ Below W.heap.size W w') ∧ (m < n → ErrOut (.string ⟨#[]⟩) 6 [scriptS, bs (itoa ((m : Int) + 1)), p] W r w')
theorem lens_40 {SL : List (Int × List PV × List Value)} {V : World} {n m : Nat} (hnl : SL.length = n) (hn40 : n ≤ 40) (hg : ∀ (j : Nat) s, j < m → SL[j]? = some s → LnOk V s) : ∀ i, i ≤ m → (textX ((SL.take i).map lnT)).length ≤ 1080023800 := fun i hi => by
    have h1 := textX_len (M := 27000594) (l := (SL.take i).map lnT) fun x hx => by
      obtain ⟨s, hs, rfl⟩ := List.mem_map.1 hx
      obtain ⟨j, hj, e⟩ := List.getElem_of_mem hs
      rw [List.length_take] at hj
      exact (hg j s (by omega) (by rw [← e, List.getElem_take]; exact List.getElem?_eq_getElem (by omega))).len
    rw [List.length_map, List.length_take] at h1
    have h2 : min i SL.length * (27000594 + 1) ≤ 40 * (27000594 + 1) := Nat.mul_le_mul_right _ (by omega)
    omega
set_option maxRecDepth 100000 in
set_option maxHeartbeats 8000000 in
theorem print_any (SL : List (Int × List PV × List Value)) (A : Option Addr) (n c : Nat) (V W : World) (E : EnvS V) (H : Rws V 29 A n (SL.map fun s => s.2.2)) (h1c : ∀ s ∈ SL, s.2.2.toArray.all (·.oneCell') = true) (hn40 : n ≤ 1000) (m : Nat) (hmn : m ≤ n) (hg : ∀ (j : Nat) s, j < m → SL[j]? = some s → LnP V s) (p : ByteArray) (hb : m < n → ∃ s, SL[m]? = some s ∧ ErP V s p) (hlen : ∀ i, i ≤ m → (textX ((SL.take i).map lnT)).length ≤ 1080023800) (hVW : Below V.heap.size V W) :
    Calls Tryz.prog 25 #[.slice A n c] W (PrR m n SL p W) := by
  have hnl : SL.length = n := by have := H.1; simpa using this
  have k1000 : ¬ (1000 : Int) < (n : Int) := by omega
  have hb0 : Hid (BF W.heap.size W.heap.size (textX ((SL.take 0).map lnT)) (W.alloc (.cells #[.pointer none, .slice none 0 0] 74))) := Lib.hid (bf_zero W)
  have hB0 := Lib.hid (below_new2 W (.cells #[.pointer none, .slice none 0 0] 74))
  have hsnoc : Hid (∀ (i : Nat) x, SL[i]? = some x → textX ((SL.take (i + 1)).map lnT) = textX ((SL.take i).map lnT) ++ (lnT x ++ [10])) := Lib.hid fun i x hx => by rw [take_succ_of hx, List.map_append]; exact textX_snoc _ _
  have hall : Hid (textX ((SL.take n).map lnT) = textX (SL.map lnT)) := Lib.hid (by rw [List.take_of_length_le (by omega)])
  have hHk := Lib.hid H
  have hgk := Lib.hid hg
  have hbk := Lib.hid hb
  have h1k := Lib.hid h1c
  have hEk := Lib.hid E
  have hVk := Lib.hid hVW
  have hlk := Lib.hid hlen
  have hnk := Lib.hid hnl
  clear H hg hb h1c E hVW hlen hnl
  go_enter Tryz.func25, Tryz.ntmps25
  go_wp2_with fail
  go_loopw [15] (fun jv wr => ∃ i : Nat, i ≤ m ∧ jv = .int .i64 i ∧ Hid (BF W.heap.size W.heap.size (textX ((SL.take i).map lnT)) wr) ∧ Hid (Below W.heap.size W wr)) (fun jv _ => n - (intOf jv).toNat)
  case atStart => exact ⟨0, Nat.zero_le _, rfl, hb0, hB0⟩
  case round =>
    clear hb0 hB0
    obtain ⟨i, hi, rfl, hF, hB⟩ := hrel
    generalize wr = wv at *
    by_cases hlt : i < n
    · have hlt' : (i : Int) < (n : Int) := by omega
      have h0i : (0 : Int) ≤ (i : Int) := Int.natCast_nonneg _
      have hVB := hVk.out.trans (hB.out.mono hVk.out.size)
      obtain ⟨b2, off2, z2, rfl, hb2, hz2, hz29, hr2⟩ := Rws.row (hHk.out.keep hVB) hlt
      obtain ⟨x, hx, rfl⟩ := map_at hz2
      have hone := h1k.out x (List.mem_of_getElem? hx)
      have i4 := st_in9 x.2.2 hz29
      have j1 := st_in9' x.2.2 hz29
      have j2 := st_old x.2.2 hz29
      have hz7 := heap_new wv (.cells (stZ 0).toArray 44)
      obtain ⟨hR7, hb8⟩ := lay_step wv (ds := x.2.2) hz29
      have hF8 := hF.out.below hb8
      have hB8 := Lib.hid (hB.out.trans (hb8.mono hB.out.size))
      have q7 := hR7.range
      have hV8 := Lib.hid (hVB.trans (hb8.mono hVB.size))
      clear hz2 hb8 hVB
      by_cases him : i < m
      · have hL := hgk.out i x him hx
        have cL := Lib.hid (hL.p _ hV8.out)
        have hlx := hL.len
        have hsn := hsnoc.out i x hx
        have hli := hlk.out i hi
        obtain ⟨T0, hT0⟩ : ∃ T0, textX ((SL.take i).map lnT) = T0 := ⟨_, rfl⟩
        rw [hT0] at hsn hli hF8
        have cW := Lib.hid (fun W' (h : BF W.heap.size W.heap.size T0 W') (hs : W.heap.size ≤ W'.heap.size) => cWrite (m := lnT x ++ [10]) h (by rw [List.length_append]; simp only [List.length_singleton]; omega) hs)
        rw [← hsn, ← bs_nl] at cW
        replace hF8 := Lib.hid hF8
        have hyl : (bs (lnT x)).size ≤ 27000594 := by rw [bs_size]; exact hlx
        generalize x.2.2 = cs at *
        generalize bs (lnT x) = yl at *
        clear hx hL hlx hli hT0 hF hB hR7 hsn
        go_upto_region 7 with (first
          | (refine wpList_load_at 44 _ rfl rfl b2 (off2 + i * 29) rfl cs _ hr2 Tryz.underlying44 rfl i4 ?_)
          | (refine wpList_alloc_row 44 rfl rfl (stZ 0).toArray st_zero ?_)
          | (refine wpList_store_at 44 _ _ rfl rfl wv.heap.size cs.toArray rfl rfl 44 (stZ 0).toArray hz7 j1 j2 hone ?_))
        generalize (wv.alloc (.cells (stZ 0).toArray 44)).setRow wv.heap.size cs.toArray = w8 at *
        generalize wv.heap.size = p8 at *
        clear hz7
        go_wp2_with (first
          | (refine wpList_load_at 44 _ rfl rfl p8 0 rfl cs _ q7 Tryz.underlying44 rfl i4 ?_)
          | (go_at_call 19; (with_reducible refine cL.out.mono ?_); rintro r w9 ⟨rfl, hb9⟩
             have hF9 := hF8.out.below hb9
             have hB9 := Lib.hid (hB8.out.trans (hb9.mono hB8.out.size))
             have cW9 := Lib.hid (cW.out w9 hF9 hB9.out.size)
             clear hb9 hF9)
          | (go_at_call 32; (with_reducible refine cW9.out.mono ?_); rintro r w10 ⟨rfl, hF10, hb10, _⟩
             replace hF10 := Lib.hid hF10
             have hB10 := Lib.hid (hB9.out.trans hb10)
             clear hb10))
        go_roundw
        case rel => exact ⟨i + 1, by omega, by go_num, hF10, hB10⟩
        case measure => simp [intOf]; omega
      · obtain rfl : i = m := by omega
        obtain ⟨s, hs, hbd⟩ := hbk.out hlt
        rw [hx] at hs
        injection hs with hs
        subst hs
        have cL := Lib.hid (hbd _ hV8.out)
        have cI := Lib.hid (fun W' (h : Below W.heap.size W W') => itoa_any ((i : Int) + 1) (i64_small (by omega)) W' (hEk.out.keep (hVk.out.trans (h.mono hVk.out.size)) hEk.out.size))
        generalize x.2.2 = cs at *
        obtain ⟨yd, hyd⟩ : ∃ yd, bs (itoa ((i : Int) + 1)) = yd := ⟨_, rfl⟩
        rw [hyd] at cI
        replace hyd := Lib.hid hyd
        clear hx hbd hF hB hR7 hF8 hsnoc hall
        go_upto_region 7 with (first
          | (refine wpList_load_at 44 _ rfl rfl b2 (off2 + i * 29) rfl cs _ hr2 Tryz.underlying44 rfl i4 ?_)
          | (refine wpList_alloc_row 44 rfl rfl (stZ 0).toArray st_zero ?_)
          | (refine wpList_store_at 44 _ _ rfl rfl wv.heap.size cs.toArray rfl rfl 44 (stZ 0).toArray hz7 j1 j2 hone ?_))
        generalize (wv.alloc (.cells (stZ 0).toArray 44)).setRow wv.heap.size cs.toArray = w8 at *
        generalize wv.heap.size = p8 at *
        clear hz7
        go_wp2_with (first
          | (refine wpList_load_at 44 _ rfl rfl p8 0 rfl cs _ q7 Tryz.underlying44 rfl i4 ?_)
          | (go_at_call 19; (with_reducible refine cL.out.mono ?_); rintro r w9 ⟨e, rfl, hm9, hb9⟩
             obtain ⟨T9, u9, rfl⟩ := isErr_some hm9
             have hB9 := Lib.hid (hB8.out.trans (hb9.mono hB8.out.size))
             have cI9 := Lib.hid (cI.out w9 hB9.out)
             replace hm9 := Lib.hid hm9
             clear hb9)
          | (go_at_call 52; (with_reducible refine cI9.out.mono ?_); rintro r w10 ⟨rfl, hb10⟩
             have cA1 := Lib.hid (at_any yd (some 6) [p] T9 u9 w10 (hm9.out.keep hb10))
             have hB10 := Lib.hid (hB9.out.trans (hb10.mono hB9.out.size))
             clear hb10)
          | (go_at_call 51; (with_reducible refine cA1.out.mono ?_); rintro r w11 ⟨v1, rfl, hv1, hb11⟩
             obtain ⟨T8, u8, rfl⟩ := isErr_some hv1
             have cA2 := Lib.hid (at_any scriptS (some 6) [yd, p] T8 u8 w11 hv1)
             have hB11 := Lib.hid (hB10.out.trans (hb11.mono hB10.out.size))
             unfold scriptS at cA2
             clear hb11 hv1 cA1)
          | (go_at_call 51; (with_reducible refine cA2.out.mono ?_); rintro r w12 ⟨v2, rfl, hv2, hb12⟩
             have hB12 := Lib.hid (hB11.out.trans (hb12.mono hB11.out.size))
             replace hv2 := Lib.hid hv2
             clear hb12))
        go_ret2
        exact ⟨fun h => absurd h (by omega), fun _ => ⟨v2, rfl, by rw [hyd.out]; exact hv2.out, hB12.out⟩⟩
    · obtain rfl : i = n := by omega
      obtain rfl : m = i := by omega
      have cS := Lib.hid (cString hF.out hB.out.size)
      rw [hall.out] at cS
      clear hF
      go_wp2_with (first
        | (go_at_call 33; (with_reducible refine cS.out.mono ?_); rintro r w9 ⟨rfl, _, hb9, _⟩
           have hB9 := Lib.hid (hB.out.trans hb9)
           clear hb9))
      go_ret2
      exact ⟨fun _ => ⟨rfl, hB9.out⟩, fun h => absurd h (by omega)⟩
end

section
open Go Go.RowKit Go.Shelf
open Go.Lib (itoa)

def SlO (o : Option Nat) (W : World) (K : Nat) (zs : List (List Value)) (v : Value) : Prop := ∃ A c, v = .slice A zs.length c ∧ zs.length ≤ c ∧ c ≤ 9223372036854775807 ∧ Rws W K A zs.length zs ∧ (0 < zs.length → ∀ a, A = some a → some a.block ≠ o)
theorem SlO.v {o : Option Nat} {W : World} {K : Nat} {zs : List (List Value)} {v : Value} (h : SlO o W K zs v) : SlV W K zs v := by
  obtain ⟨A, c, h1, h2, h3, h4, _⟩ := h
  exact ⟨A, c, h1, h2, h3, h4⟩
theorem SlO.keep {o : Option Nat} {W W' : World} {K : Nat} {zs : List (List Value)} {v : Value} (h : SlO o W K zs v) (hb : Below W.heap.size W W') : SlO o W' K zs v := by
  obtain ⟨A, c, h1, h2, h3, h4, h5⟩ := h
  exact ⟨A, c, h1, h2, h3, h4.keep hb, h5⟩
theorem SlO.grown {o o' : Option Nat} {W W' : World} {K : Nat} {zs : List (List Value)} {v : Value} (h : SlO o W K zs v) (hg : W.grownBy W' o) (ho : o' = o ∨ o' = some W.heap.size) : SlO o' W' K zs v := by
  obtain ⟨A, c, h1, h2, h3, h4, h5⟩ := h
  refine ⟨A, c, h1, h2, h3, ⟨h4.1, h4.2.1, fun hp => ?_⟩, fun hp a ha => ?_⟩
  · obtain ⟨b', off, e, hlt, hc⟩ := h4.2.2 hp
    have hne := h5 hp _ e
    refine ⟨b', off, e, Nat.lt_of_lt_of_le hlt hg.size, fun j z hz i v hv => ?_⟩
    rw [World.cell?_of_block (hg.block b' hlt hne)]
    exact hc j z hz i v hv
  · obtain ⟨b', off, e, hlt, _⟩ := h4.2.2 hp
    rcases ho with rfl | rfl
    · exact h5 hp a ha
    · rw [e] at ha
      injection ha with ha
      subst ha
      intro h9
      injection h9 with h9
      dsimp only at h9
      omega
theorem SlN.o {b : Nat} {o : Option Nat} {W : World} {K : Nat} {zs : List (List Value)} {v : Value} (h : SlN b W K zs v) (ho : ∀ g, o = some g → g ≤ b) : SlO o W K zs v := by
  obtain ⟨A, c, h1, h2, h3, h4, h5⟩ := h
  exact ⟨A, c, h1, h2, h3, h4, fun hp a ha e => by have := h5 hp a ha; have := ho _ e.symm; omega⟩
structure StO (o : Option Nat) (W : World) (k : Int) (vs : List PV) (cs : List Value) : Prop where
  len : cs.length = 29
  kind : cs[0]? = some (.int .i64 k)
  ok : OkVs keyT vs
  val : ∀ (i off : Nat) (v : PV), vs[i]? = some v → offT[i]? = some off → ∃ z, PValG (SlO o W) v z ∧ ∀ (j : Nat) x, z[j]? = some x → cs[off + j]? = some x
  one : ∀ x ∈ cs, x.oneCell' = true
theorem StO.c {o : Option Nat} {W : World} {k : Int} {vs : List PV} {cs : List Value} (h : StO o W k vs cs) : StC W k vs cs :=
  ⟨h.len, h.kind, fun i off v h1 h2 => by obtain ⟨z, hz, hc⟩ := h.val i off v h1 h2; exact ⟨z, PValG.mono (fun _ _ _ h => h.v) hz, hc⟩, by rw [List.all_toArray]; exact List.all_eq_true.2 h.one⟩
theorem StO.keep {o : Option Nat} {W W' : World} {k : Int} {vs : List PV} {cs : List Value} (h : StO o W k vs cs) (hb : Below W.heap.size W W') : StO o W' k vs cs :=
  ⟨h.len, h.kind, h.ok, fun i off v h1 h2 => by obtain ⟨z, hz, hc⟩ := h.val i off v h1 h2; exact ⟨z, PValG.mono (fun _ _ _ h => h.keep hb) hz, hc⟩, h.one⟩
theorem StO.grown {o o' : Option Nat} {W W' : World} {k : Int} {vs : List PV} {cs : List Value} (h : StO o W k vs cs) (hg : W.grownBy W' o) (ho : o' = o ∨ o' = some W.heap.size) : StO o' W' k vs cs :=
  ⟨h.len, h.kind, h.ok, fun i off v h1 h2 => by obtain ⟨z, hz, hc⟩ := h.val i off v h1 h2; exact ⟨z, PValG.mono (fun _ _ _ h => h.grown hg ho) hz, hc⟩, h.one⟩
theorem StN.o {b : Nat} {o : Option Nat} {W : World} {k : Int} {vs : List PV} {cs : List Value} (h : StN b W k vs cs) (ho : ∀ g, o = some g → g ≤ b) : StO o W k vs cs :=
  ⟨h.len, h.kind, h.ok, fun i off v h1 h2 => by obtain ⟨z, hz, hc⟩ := h.val i off v h1 h2; exact ⟨z, PValG.mono (fun _ _ _ h => h.o ho) hz, hc⟩, h.one⟩
def RowsO (o : Option Nat) (W : World) (ls : List (List UInt8)) (rows : List (Int × List PV × List Value)) : Prop :=
  ∀ (j : Nat) s, rows[j]? = some s → (∃ l, ls[j]? = some l ∧ ∃ k : Nat, s.1 = k ∧ rdLine l = .ok k s.2.1) ∧ StO o W s.1 s.2.1 s.2.2
theorem RowsO.keep {o : Option Nat} {W W' : World} {ls : List (List UInt8)} {rows : List (Int × List PV × List Value)} (h : RowsO o W ls rows) (hb : Below W.heap.size W W') : RowsO o W' ls rows := fun j s hj => ⟨(h j s hj).1, (h j s hj).2.keep hb⟩
theorem RowsO.grown {o o' : Option Nat} {W W' : World} {ls : List (List UInt8)} {rows : List (Int × List PV × List Value)} (h : RowsO o W ls rows) (hg : W.grownBy W' o) (ho : o' = o ∨ o' = some W.heap.size) : RowsO o' W' ls rows := fun j s hj => ⟨(h j s hj).1, (h j s hj).2.grown hg ho⟩
theorem RowsO.snoc {o : Option Nat} {W : World} {ls : List (List UInt8)} {rows : List (Int × List PV × List Value)} {l : List UInt8} {k : Nat} {vs : List PV} {cs : List Value} (h : RowsO o W ls rows) (hl : ls[rows.length]? = some l) (hr : rdLine l = .ok k vs) (hs : StO o W k vs cs) : RowsO o W ls (rows ++ [((k : Int), vs, cs)]) := fun j s hj => by
  by_cases e : j < rows.length
  · rw [List.getElem?_append_left e] at hj
    exact h j s hj
  · rw [List.getElem?_append_right (by omega)] at hj
    obtain ⟨q, rfl⟩ : ∃ q, j = rows.length + q := ⟨j - rows.length, by omega⟩
    rw [Nat.add_sub_cancel_left] at hj
    cases q with
    | zero => injection hj with hj; subst hj; exact ⟨⟨l, hl, k, rfl, hr⟩, hs⟩
    | succ q => cases hj
section
variable {P : Program} {ops : Array Oper} {Q : Exit → Act → World → Prop} {a : Act} {w : World} {rest : List Oper} {o : Oper}
theorem wpList_append_one_at (hgd : o.guard = none) (s x : Operand) (t : TypeId)
    (ho : o.op = .call { callee := .builtin .append, args := #[s, x], argTypes := #[t, t] })
    (e : TypeId) (i : TypeInfo) (z : Value) (size bytes : Nat) (ht : P.underlying t = some (.slice e)) (hi : P.info? e = some i) (hz : i.zero = some z)
    (hsize : i.size = size) (hby : i.bytes = bytes) (hzs : z.cells.size = size) (hsz : 0 < size)
    (w0 : World) (hB : Below w0.heap.size w0 w) (v : Value) (zs : List (List Value)) (hs : a.eval s = v) (hown : OwnR w w0.heap.size size e v zs)
    (g c : Nat) (row : List Value) (hx : a.eval x = .slice (some ⟨g, 0, none⟩) 1 c) (hrow : w.rangeAt g 0 row) (hl : row.length = size) (h1 : ∀ u ∈ row, u.oneCell' = true)
    (h63 : zs.length + 1 ≤ maxLen) (hbytes : (zs.length + 1) * bytes ≤ 140737488355328)
    (h : ∀ v' w', OwnR w' w0.heap.size size e v' (zs ++ [row]) → Below w0.heap.size w0 w' → w.grownBy w' v.ownBlock → (v'.ownBlock = v.ownBlock ∨ v'.ownBlock = some w.heap.size) → wpList P ops Q rest (a.put o.dst v') w') : wpList P ops Q (o :: rest) a w := by
  refine wpList_append_own_at w hgd s x t ho w0.heap.size e i z size bytes ht hi hz hsize hby hzs hsz v zs.length zs.flatten hs hown.1 ⟨g, 0, none⟩ 1 c row hx (by rw [hl, Nat.one_mul])
    (fun j u hu => by rw [Addr.add_mid]; exact hrow j u hu) h1 h63 hbytes hB.size ?_
  intro v' w' hown' hg _ hat
  refine h v' w' ⟨by simpa [List.length_append, List.flatten_append] using hown', fun z hz => ?_⟩ (hB.grown hg hB.size hown.lt) hg hat
  rcases List.mem_append.1 hz with hz | hz
  · exact hown.2 z hz
  · simp only [List.mem_singleton] at hz
    subst hz
    exact hl
end
end

section
open Go Go.RowKit Go.Shelf
open Go.Lib (itoa)

theorem step_info : (Tryz.prog.info? 44).map (fun i => (i.zero, i.size, decide (i.bytes ≤ 1000))) = some (some (.agg (stZ 0).toArray), 29, true) := by kernel_rfl
def PsR (ls : List (List UInt8)) (m : Nat) (a : List UInt8) (W : World) (r : Ending) (w' : World) : Prop :=
  (m = ls.length → ∃ (v : Value) (rows : List (Int × List PV × List Value)), r = .returned (.tuple #[v, .nilIface]) ∧ OwnR w' W.heap.size 29 44 v (rows.map fun s => s.2.2) ∧ RowsO v.ownBlock w' ls rows ∧ rows.length = m ∧ Below W.heap.size W w') ∧
  (m < ls.length → ErrOut (.slice none 0 0) 3 [scriptS, bs (itoa ((m : Int) + 1)), bs a] W r w')
theorem own_step {w : World} {B : Nat} {E : TypeId} {v : Value} {zs : List (List Value)} (h : OwnR w B 29 E v zs) {g : Nat} (hg : v.ownBlock = some g) : g < w.heap.size := by
  obtain ⟨⟨hl, hh⟩, hz⟩ := h
  rcases hh with ⟨rfl, _⟩ | ⟨g', cap, cur, hv, hg', hc, r⟩
  · cases hg
  · subst hv
    have : some g' = some g := hg
    injection this with this
    subst this
    exact (Array.getElem?_eq_some_iff.1 hc).1
set_option maxRecDepth 100000 in
set_option maxHeartbeats 8000000 in
theorem parse_lines (s : ByteArray) (ls : List (List UInt8)) (W : World) (E : EnvS W) (hs : s.size < 4294967281) (hps : splitL 10 s.data.toList = ls ++ [[]]) (hne : ls ≠ []) (h1000 : ls.length ≤ 1000) (m : Nat) (a : List UInt8) (hmn : m ≤ ls.length) (hg : ∀ (j : Nat) l, j < m → ls[j]? = some l → ∃ k vs, rdLine l = .ok k vs) (hb : ∀ l, ls[m]? = some l → rdLine l = .bad a) :
    Calls Tryz.prog 27 #[.string s] W (PsR ls m a W) := by
  obtain ⟨i0, hi0, hz0, hz1, hz2⟩ : ∃ i, Tryz.prog.info? 44 = some i ∧ i.zero = some (.agg (stZ 0).toArray) ∧ i.size = 29 ∧ i.bytes ≤ 1000 := by
    have h := step_info
    cases hq : Tryz.prog.info? 44 with
    | none => rw [hq] at h; cases h
    | some i =>
      rw [hq] at h
      injection h with h
      injection h with h1 h2
      injection h2 with h2 h3
      exact ⟨i, rfl, h1, h2, of_decide_eq_true h3⟩
  have hs0 : ¬ s.size = 0 := fun h => by
    have h2 : s.data.toList = [] := List.eq_nil_of_length_eq_zero (by rw [Array.length_toList]; exact h)
    rw [h2] at hps
    cases ls with
    | nil => exact hne rfl
    | cons x r => have h3 := congrArg List.length hps; rw [List.length_append] at h3; simp [splitL] at h3
  have hemp : s.toList.isEmpty = false := by
    have h9 : s.data.toList ≠ [] := fun h => hs0 (by show s.data.size = 0; rw [← Array.length_toList, h]; rfl)
    have := bs_ne0 h9
    rwa [bs_back] at this
  have hsub := fun p (hp : p ∈ splitL 10 s.data.toList) => split_size p hp
  have hsl : s.data.toList.length = s.size := by rw [Array.length_toList]; rfl
  rw [hsl] at hsub
  have cS := split_any 10 s W E hs
  rw [hps] at cS hsub
  obtain ⟨n, hn⟩ : ∃ n, ls.length = n := ⟨_, rfl⟩
  have hn1 : (ls ++ [([] : List UInt8)]).length = n + 1 := by rw [List.length_append, hn]; rfl
  rw [hn1] at cS
  rw [hn] at h1000 hmn
  have k1 : ((n + 1 : Nat) : Int) - 1 = (n : Int) := by omega
  have k2 : ¬ (1000 : Int) < (n : Int) := by omega
  replace cS := Lib.hid cS
  replace hsub := Lib.hid hsub
  replace hg := Lib.hid hg
  replace hb := Lib.hid hb
  have hnk := Lib.hid hn
  have hEk := Lib.hid E
  clear hps hne hsl hs0 E hn hn1
  go_enter Tryz.func27, Tryz.ntmps27
  go_upto_region 4 with (go_at_call 45; (with_reducible refine cS.out.mono ?_); rintro r wa ⟨W9, rfl, rfl, hS, hb1⟩; have hO1 := Lib.hid (OwnR.nil_ wa wa.heap.size 29 44); replace hS := Lib.hid hS; replace hb1 := Lib.hid hb1)
  obtain ⟨hcn, _⟩ := strs_cell hS.out (j := n) (s := (⟨#[]⟩ : ByteArray)) (by rw [List.getElem?_map, List.getElem?_append_right (by rw [hnk.out]; exact Nat.le_refl _), hnk.out, Nat.sub_self]; rfl)
  rw [Nat.zero_add] at hcn
  go_upto_region 9 with fail
  go_wp2_with fail
  clear hcn
  go_loopw [5, 35] (fun av jv wr => ∃ (i : Nat) (rows : List (Int × List PV × List Value)) (ov : Value), i ≤ m ∧ ov = av ∧ jv = .int .i64 i ∧ Hid (OwnR wr wa.heap.size 29 44 ov (rows.map fun s => s.2.2)) ∧ Hid (RowsO ov.ownBlock wr ls rows) ∧ Hid (rows.length = i) ∧ Hid (Below wa.heap.size wa wr)) (fun _ jv _ => n - (intOf jv).toNat)
  case atStart => exact ⟨0, [], _, Nat.zero_le _, rfl, rfl, hO1, Lib.hid (fun j s h => by cases h), Lib.hid rfl, Lib.hid (Below.refl _ _)⟩
  case round =>
    clear hO1
    obtain ⟨i, rows, ov, hi, rfl, rfl, hO, hR, hL, hB⟩ := hrel
    have hBw := Lib.hid (hb1.out.trans (hB.out.mono hb1.out.size))
    generalize wr = wv at *
    by_cases hlt : i < n
    · have hlt' : (i : Int) < (n : Int) := by omega
      have h0i : (0 : Int) ≤ (i : Int) := Int.natCast_nonneg _
      obtain ⟨l, hl⟩ : ∃ l, ls[i]? = some l := ⟨ls[i]'(by rw [hnk.out]; exact hlt), List.getElem?_eq_getElem _⟩
      have hla : (ls ++ [([] : List UInt8)])[i]? = some l := by rw [List.getElem?_append_left (by rw [hnk.out]; exact hlt)]; exact hl
      obtain ⟨hc0, _⟩ := strs_cell (hS.out.keep hB.out) (j := i) (s := bs l) (by rw [List.getElem?_map, hla]; rfl)
      rw [Nat.zero_add] at hc0
      have hll := hsub.out l (List.mem_of_getElem? hla)
      have cR := read_lineN (bs l) wv (hEk.out.keep hBw.out hEk.out.size) (by rw [bs_size]; omega)
      rw [bs_list] at cR
      by_cases him : i < m
      · obtain ⟨k, vs, hr⟩ := hg.out i l him hl
        replace cR := Lib.hid (cR.mono (fun (r : Ending) (w' : World) h => (by
          rcases h with ⟨k', vs', ds, h1, h2, h3, h4⟩ | ⟨b, e, h1, _⟩
          · rw [hr] at h1; injection h1 with e1 e2; subst e1 e2; exact ⟨ds, h2, h3, h4⟩
          · exact (nomatch (hr.symm.trans h1)) : ∃ ds : List Value, r = Ending.returned (.tuple #[.agg ds.toArray, .nilIface]) ∧ StN wv.heap.size w' k vs ds ∧ Below wv.heap.size wv w')))
        have how : Hid (∀ g, ov.ownBlock = some g → g ≤ wv.heap.size) := Lib.hid (fun g h => Nat.le_of_lt (own_step hO.out h))
        have hend := Lib.hid (fun (o : Option Nat) (W' : World) ds (h : RowsO o W' ls rows) (hs : StO o W' k vs ds) => h.snoc (by rw [hL.out]; exact hl) hr hs)
        have hL2 : Hid (∀ ds : List Value, (rows ++ [((k : Int), vs, ds)]).length = i + 1) := Lib.hid (fun ds => by rw [List.length_append, hL.out]; rfl)
        have hmp : Hid (∀ ds : List Value, (rows ++ [((k : Int), vs, ds)]).map (fun s => s.2.2) = rows.map (fun s => s.2.2) ++ [ds]) := Lib.hid (fun ds => by rw [List.map_append]; rfl)
        have hln : (rows.map fun s => s.2.2).length = i := by rw [List.length_map, hL.out]
        generalize hzs : (rows.map fun s => s.2.2) = zs at *
        replace hzs := Lib.hid hzs
        generalize bs l = yl at *
        clear hl hla hll hr hL
        go_upto_region 13 with (first
          | (go_at_call 22; (with_reducible refine cR.out.mono ?_); rintro r w7 ⟨ds, rfl, hm7, hb7⟩
             have hz7 := heap_new w7 (.cells (stZ 0).toArray 44)
             have hone := (StN.c hm7).one
             have hon9 := Lib.hid hm7.one
             have hd29 := hm7.len
             obtain ⟨hR7, hb8⟩ := lay_step w7 (ds := ds) hd29
             have i4 := st_in9 ds hd29
             have j1 := st_in9' ds hd29
             have j2 := st_old ds hd29
             have hb9 := hb7.trans (hb8.mono hb7.size)
             have hO8 := Lib.hid (hO.out.keep hb9)
             have hR8 := Lib.hid (RowsO.keep hR.out hb9)
             have hm8 := Lib.hid (hm7.but (But.of_below hb8))
             have hB8 := Lib.hid (hB.out.trans (hb9.mono hB.out.size))
             clear hb7 hb8 hb9 hm7 hO hR)
          | (refine wpList_alloc_row 44 rfl rfl (stZ 0).toArray st_zero ?_)
          | (refine wpList_store_at 44 _ _ rfl rfl w7.heap.size ds.toArray rfl rfl 44 (stZ 0).toArray hz7 j1 j2 hone ?_))
        generalize (w7.alloc (.cells (stZ 0).toArray 44)).setRow w7.heap.size ds.toArray = w8 at *
        generalize w7.heap.size = p8 at *
        have q8 := hR7.range
        have hb9 := below_new w8 (.cells ds.toArray 44)
        have hB9 := Lib.hid (hB8.out.trans (hb9.mono hB8.out.size))
        have hO9 := Lib.hid (hO8.out.keep hb9)
        have hR9 := Lib.hid (RowsO.keep hR8.out hb9)
        have hm9 := Lib.hid (StO.keep (StN.o hm8.out how.out) hb9)
        have hfill : Instr.fill (fun j => some (j * i0.size, i0.size)) ((Array.range (1 * i0.size)).map ((Value.agg (stZ 0).toArray).cells[· % (Value.agg (stZ 0).toArray).cells.size]!)) [(0, .agg ds.toArray)] = some ds.toArray := by
          rw [hz1]; exact fill_one 29 _ _ (by simp) (by rw [List.size_toArray, hd29])
        have hby : (zs.length + 1) * i0.bytes ≤ 140737488355328 := by
          have h1 : (zs.length + 1) * i0.bytes ≤ 1001 * 1000 := Nat.mul_le_mul (by omega) hz2
          omega
        replace hby := Lib.hid hby
        replace hln := Lib.hid hln
        clear hz7 hb9 hR7 hO8 hR8 hm8
        go_wp2_with (first
          | (refine wpList_load_at 44 _ rfl rfl p8 0 rfl ds _ q8 Tryz.underlying44 rfl i4 ?_)
          | (refine wpList_buildSlice_as 46 44 1 _ rfl rfl i0 (.agg (stZ 0).toArray) ds.toArray Tryz.underlying46 hi0 hz0 (by rw [hz1]; decide) (by rw [hz1]; decide) hfill ?_)
          | (at_builtin
             refine wpList_append_one_at rfl _ _ 46 rfl 44 i0 (.agg (stZ 0).toArray) 29 i0.bytes Tryz.underlying46 hi0 hz0 hz1 rfl rfl (by decide) wa hB9.out _ _ rfl hO9.out w8.heap.size 1 ds rfl ?_ hd29 hon9.out ?_ hby.out ?_
             · exact rangeAt_list (heap_new w8 (.cells ds.toArray 44))
             · rw [hln.out]; unfold maxLen; omega
             intro v' w3 hO5 hB5 hg5 hat5
             have hO6 := Lib.hid (show OwnR w3 wa.heap.size 29 44 v' ((rows ++ [((k : Int), vs, ds)]).map fun s => s.2.2) by rw [hmp.out]; exact hO5)
             have hR6 := Lib.hid (hend.out _ _ ds (RowsO.grown hR9.out hg5 hat5) (StO.grown hm9.out hg5 hat5))
             have hB6 := Lib.hid hB5))
        go_roundw
        case rel => exact ⟨i + 1, _, _, by omega, rfl, by go_num, hO6, hR6, Lib.hid (hL2.out ds), hB6⟩
        case measure => simp [intOf]; omega
      · obtain rfl : i = m := by omega
        have hr := hb.out l hl
        replace cR := Lib.hid (cR.mono (fun (r : Ending) (w' : World) h => (by
          rcases h with ⟨k', vs', ds, h1, _⟩ | ⟨b, e, h1, h2, h3, h4⟩
          · exact (nomatch (hr.symm.trans h1))
          · rw [hr] at h1; injection h1 with e1; subst e1; exact ⟨e, h2, h3, h4⟩ : ∃ e : Value, r = Ending.returned (.tuple #[.agg (stZ 0).toArray, e]) ∧ isErr w' (some 3) [bs a] e ∧ Below wv.heap.size wv w')))
        have cI := Lib.hid (fun W' (h : Below W.heap.size W W') => itoa_any ((i : Int) + 1) (i64_small (by omega)) W' (hEk.out.keep h hEk.out.size))
        obtain ⟨yd, hyd⟩ : ∃ yd, bs (itoa ((i : Int) + 1)) = yd := ⟨_, rfl⟩
        rw [hyd] at cI
        replace hyd := Lib.hid hyd
        generalize bs l = yl at *
        clear hl hla hll hr hO hR hL
        go_wp2_with (first
          | (go_at_call 22; (with_reducible refine cR.out.mono ?_); rintro r w7 ⟨e, rfl, hm7, hb7⟩
             obtain ⟨T9, u9, rfl⟩ := isErr_some hm7
             have hz7 := heap_new w7 (.cells (stZ 0).toArray 44)
             obtain ⟨hR7, hb8⟩ := lay_step w7 (ds := stZ 0) rfl
             have j1 := st_in9' (stZ 0) rfl
             have hb9 := hb7.trans (hb8.mono hb7.size)
             have hm8 := Lib.hid (hm7.keep hb8)
             have hB8 := Lib.hid (hBw.out.trans (hb9.mono hBw.out.size))
             have cI9 := Lib.hid (cI.out _ hB8.out)
             clear hb7 hb8 hb9 hm7 hR7)
          | (refine wpList_alloc_row 44 rfl rfl (stZ 0).toArray st_zero ?_)
          | (refine wpList_store_at 44 _ _ rfl rfl w7.heap.size (stZ 0).toArray rfl rfl 44 (stZ 0).toArray hz7 j1 rfl stZ_one ?_)
          | (go_at_call 52; (with_reducible refine cI9.out.mono ?_); rintro r w10 ⟨rfl, hb10⟩
             have cA1 := Lib.hid (at_any yd (some 3) [bs a] T9 u9 w10 (hm8.out.keep hb10))
             have hB10 := Lib.hid (hB8.out.trans (hb10.mono hB8.out.size))
             clear hb10)
          | (go_at_call 51; (with_reducible refine cA1.out.mono ?_); rintro r w11 ⟨v1, rfl, hv1, hb11⟩
             obtain ⟨T8, u8, rfl⟩ := isErr_some hv1
             have cA2 := Lib.hid (at_any scriptS (some 3) [yd, bs a] T8 u8 w11 hv1)
             have hB11 := Lib.hid (hB10.out.trans (hb11.mono hB10.out.size))
             unfold scriptS at cA2
             clear hb11 hv1 cA1)
          | (go_at_call 51; (with_reducible refine cA2.out.mono ?_); rintro r w12 ⟨v2, rfl, hv2, hb12⟩
             have hB12 := Lib.hid (hB11.out.trans (hb12.mono hB11.out.size))
             replace hv2 := Lib.hid hv2
             clear hb12))
        go_ret2
        exact ⟨fun h => absurd h (by have := hnk.out; omega), fun _ => ⟨v2, rfl, by rw [hyd.out]; exact hv2.out, hB12.out⟩⟩
    · obtain rfl : i = n := by omega
      obtain rfl : m = i := by omega
      go_wp2_with fail
      go_ret2
      exact ⟨fun _ => ⟨ov, rows, rfl, hO.out.lowB hb1.out.size, hR.out, hL.out, hBw.out⟩, fun h => absurd h (by have := hnk.out; omega)⟩
set_option maxRecDepth 100000 in
set_option maxHeartbeats 4000000 in
theorem parse_nil (W : World) : Calls Tryz.prog 27 #[.string ⟨#[]⟩] W fun r w' => r = .returned (.tuple #[.slice none 0 0, .nilIface]) ∧ Below W.heap.size W w' := by
  go_enter Tryz.func27, Tryz.ntmps27
  go_wp2_with fail
  go_ret2
  exact ⟨rfl, Below.refl _ _⟩
end

section
open Go Go.RowKit Go.Shelf

noncomputable def ldS (a : Addr) : Sem Value := loadVar 44 a
theorem ldS_eq (a : Addr) : loadVar 44 a = ldS a := rfl
theorem ldS_run {W : World} {g off : Nat} {V : List Value} (hc : W.rangeAt g off V) (h8 : V.length = 29) : (ldS ⟨g, off, none⟩).run Tryz.prog W = .ok (.agg V.toArray) W :=
  run_loadVar_mid W g off 44 V _ hc Tryz.underlying44 rfl (by rw [h8]; kernel_rfl)
section
attribute [local go_sem ↓] ldS_eq
set_option maxRecDepth 100000 in
set_option maxHeartbeats 4000000 in
theorem same_all (SL TL : List (List Value)) (A A' : Option Addr) (n c c' : Nat) (V : World) (H : Rws V 29 A n SL) (K : Rws V 29 A' n TL) (hs : ∀ (j : Nat) s t, SL[j]? = some s → TL[j]? = some t → ∀ W', Below V.heap.size V W' → Calls Tryz.prog 23 #[.agg s.toArray, .agg t.toArray] W' fun r w' => r = .returned (.bool true) ∧ Below W'.heap.size W' w') (hn63 : n ≤ 1000000) :
    Calls Tryz.prog 28 #[.slice A n c, .slice A' n c'] V fun r w' => r = .returned (.bool true) ∧ Below V.heap.size V w' := by
  replace H := Lib.hid H
  replace K := Lib.hid K
  replace hs := Lib.hid hs
  go_enter Tryz.func28, Tryz.ntmps28
  go_wp2_with fail
  go_loopw [5] (fun jv wr => ∃ i : Nat, i ≤ n ∧ jv = .int .i64 i ∧ Hid (Below V.heap.size V wr)) (fun jv _ => n - (intOf jv).toNat)
  case atStart => exact ⟨0, Nat.zero_le _, rfl, Lib.hid (Below.refl _ _)⟩
  case round =>
    obtain ⟨i, hi, rfl, hB⟩ := hrel
    generalize wr = wv at *
    by_cases hlt : i < n
    · have hlt' : (i : Int) < (n : Int) := by omega
      have h0i : (0 : Int) ≤ (i : Int) := Int.natCast_nonneg _
      obtain ⟨b2, off2, s, rfl, hb2, hs2, hs29, hr2⟩ := Rws.row (H.out.keep hB.out) hlt
      obtain ⟨b3, off3, t, rfl, hb3, ht2, ht29, hr3⟩ := Rws.row (K.out.keep hB.out) hlt
      have cS := Lib.hid (hs.out i s t hs2 ht2)
      have hSk := Lib.hid (fun W (h : Below wv.heap.size wv W) => (⟨ldS_run (rangeAt_keep hr2 h hb2) hs29, ldS_run (rangeAt_keep hr3 h hb3) ht29⟩ :
        (ldS ⟨b2, off2 + i * 29, none⟩).run Tryz.prog W = .ok (.agg s.toArray) W ∧ (ldS ⟨b3, off3 + i * 29, none⟩).run Tryz.prog W = .ok (.agg t.toArray) W))
      clear hs2 ht2 hs29 ht29 hr2 hr3
      go_wp2_with fail
      have hB0 := Lib.hid (show Below wv.heap.size wv wv.drew from drewN_below 1)
      have hC0 := Lib.hid (hB.out.trans (hB0.out.mono hB.out.size))
      go_region_held3 (fun W => (ldS ⟨b2, off2 + i * 29, none⟩).run Tryz.prog W = .ok (.agg s.toArray) W ∧ (ldS ⟨b3, off3 + i * 29, none⟩).run Tryz.prog W = .ok (.agg t.toArray) W)
        (first | exact hSk.out _ hB0.out | exact hSk.out _ hB3.out)
        (first
          | (go_at_call 23; (with_reducible refine (cS.out _ hC0.out).mono ?_); rintro r w3 ⟨rfl, hb9⟩; have hB3 := Lib.hid (hB0.out.trans (hb9.mono hB0.out.size)); have hC3 := Lib.hid (hC0.out.trans (hb9.mono hC0.out.size)); clear hb9))
      go_wp2_with fail
      go_roundw
      case rel => exact ⟨i + 1, by omega, by go_num, hC3⟩
      case measure => simp [intOf]; omega
    · obtain rfl : i = n := by omega
      go_wp2_with fail
      go_ret
      exact ⟨rfl, hB.out⟩
end
end

section
open Go Go.RowKit Go.Shelf Go.ChangeShapes Go.WideShapes Go.Deep

end

section
open Go Go.RowKit Go.Shelf Go.ChangeShapes Go.WideShapes Go.Deep

section
variable {H : Type} {enc : TypeId × Value → H} {P : Program} {w : World} {base : Nat} {spare : Nat → Bool} {held : Bool}
theorem open_rows_R {t e : TypeId} {K : Nat} {R : List Value → Prop} {fuel : Nat} {cs : List Value} {x : DataW H × List MemPlace} (ht : P.underlying t = some (.slice e)) (hR : ∀ f cs' x', DataW.trod enc P w base spare held f e cs' = some x' → cs'.length = K ∧ R cs') (hcl : P.cellsOf e = K) (hpos : 0 < K)
    (h : DataW.trod enc P w base spare held fuel t cs = some x) :
    ∃ A len cap zs, cs = [.slice A len cap] ∧ len ≤ cap ∧ cap ≤ maxLen ∧ Rws w K A len zs ∧ ∀ z ∈ zs, z.length = K ∧ R z := by
  rcases open_slice ht h with ⟨h0, _⟩ | ⟨a, len, cap, m, k, D, Pl, hcs, hb, hl, hm, hmm, hx, hi⟩
  · exact ⟨none, 0, 0, [], h0, Nat.le_refl _, by decide, Rws.nil_, by simp⟩
  · have hrows : ∀ i, i < len → ∃ cs', w.cells? base (a.add (i * K)) K = some cs' ∧ (cs'.length = K ∧ R cs') := by
      intro i hil
      have him : i < m := by rw [hmm]; split <;> omega
      obtain ⟨cs', hc, htr⟩ := hi i him
      rw [hcl] at hc
      exact ⟨cs', hc, hR _ _ _ htr⟩
    rcases Nat.eq_zero_or_pos len with h0 | h0
    · subst h0
      exact ⟨some a, 0, cap, [], hcs, hl, hm, Rws.nil_, by simp⟩
    · -- the address is plain
      have hspot : a.spot = none := by
        obtain ⟨cs', hc, _⟩ := hrows 0 h0
        obtain ⟨_, hcl', hat⟩ := World.cells?_some hc
        have h1 := hat 0 hpos
        have h2 : ((a.add (0 * K)).add 0) = a := by simp [Addr.add]
        rw [h2, List.getElem?_eq_getElem (by omega)] at h1
        unfold World.cell? at h1
        cases hs : a.spot with
        | none => rfl
        | some s =>
          simp only [hs, Option.isSome_some, if_true] at h1
          split at h1 <;> cases h1
      obtain ⟨b, off, sp⟩ := a
      subst hspot
      have hz : ∃ zs : List (List Value), zs.length = len ∧ ∀ j z, zs[j]? = some z → w.cells? base ((⟨b, off, none⟩ : Addr).add (j * K)) K = some z ∧ (z.length = K ∧ R z) := by
        clear hcs hl hmm hi h0 h
        have : ∀ l, l ≤ len → ∃ zs : List (List Value), zs.length = l ∧ ∀ j z, zs[j]? = some z → w.cells? base ((⟨b, off, none⟩ : Addr).add (j * K)) K = some z ∧ (z.length = K ∧ R z) := by
          intro l
          induction l with
          | zero => intro _; exact ⟨[], rfl, by simp⟩
          | succ l ih =>
            intro hl
            obtain ⟨zs, hlz, hzz⟩ := ih (by omega)
            obtain ⟨c, hc, hok⟩ := hrows l (by omega)
            refine ⟨zs ++ [c], by simp [hlz], fun j z hj => ?_⟩
            by_cases hjl : j < zs.length
            · rw [List.getElem?_append_left hjl] at hj
              exact hzz j z hj
            · rw [List.getElem?_append_right (by omega)] at hj
              have : j = l := by
                have := (List.getElem?_eq_some_iff.1 hj).1
                simp at this
                omega
              subst this
              rw [hlz, Nat.sub_self] at hj
              simp only [List.getElem?_cons_zero, Option.some.injEq] at hj
              subst hj
              exact ⟨hc, hok⟩
        exact this len (Nat.le_refl _)
      obtain ⟨zs, hzl, hzz⟩ := hz
      have hblt : b < w.heap.size := by
        obtain ⟨cs', hc, _⟩ := hrows 0 h0
        obtain ⟨_, hcl', hat⟩ := World.cells?_some hc
        have h1 := hat 0 hpos
        have h2 : (((⟨b, off, none⟩ : Addr).add (0 * K)).add 0) = ⟨b, off, none⟩ := by simp [Addr.add]
        rw [h2, List.getElem?_eq_getElem (by omega)] at h1
        exact block_lt_of_cell h1
      refine ⟨some ⟨b, off, none⟩, len, cap, zs, hcs, hl, hm, ⟨hzl, fun z hz => ?_, fun _ => ⟨b, off, rfl, hblt, fun j z hj i v hv => ?_⟩⟩, fun z hz => ?_⟩
      · obtain ⟨j, hj, rfl⟩ := List.getElem_of_mem hz
        exact (hzz j _ (List.getElem?_eq_getElem hj)).2.1
      · obtain ⟨hc, hok⟩ := hzz j z hj
        obtain ⟨_, hcl', hat⟩ := World.cells?_some hc
        have hi' : i < K := by have := (List.getElem?_eq_some_iff.1 hv).1; omega
        have := hat i hi'
        rw [Addr.add_mid, Addr.add_mid] at this
        rw [this, hv]
      · obtain ⟨j, hj, rfl⟩ := List.getElem_of_mem hz
        exact (hzz j _ (List.getElem?_eq_getElem hj)).2
end
theorem steps_of {W : World} : ∀ {zs : List (List Value)}, (∀ z ∈ zs, ∃ kd vs, StI W kd vs z) → ∃ SL : List (Int × List PV × List Value), SL.map (fun s => s.2.2) = zs ∧ ∀ s ∈ SL, StI W s.1 s.2.1 s.2.2
  | [], _ => ⟨[], rfl, fun s h => by cases h⟩
  | z :: zs, h => by
    obtain ⟨kd, vs, h1⟩ := h z List.mem_cons_self
    obtain ⟨SL, h2, h3⟩ := steps_of (zs := zs) fun x hx => h x (List.mem_cons_of_mem _ hx)
    refine ⟨(kd, vs, z) :: SL, by rw [List.map_cons, h2], fun s hs => ?_⟩
    rcases List.mem_cons.1 hs with rfl | hs
    · exact h1
    · exact h3 s hs
set_option maxRecDepth 100000 in
theorem open_steps {H : Type} {enc : TypeId × Value → H} {w : World} {base : Nat} {spare : Nat → Bool} {held : Bool} {r : Reach} {b0 : Nat} {v : Value} {d : DataW H} {ps : List MemPlace}
    (hv : Value.okWide Tryz.prog w r b0 46 v) (h : DataW.Trod enc Tryz.prog w base spare held 46 v d ps) :
    ∃ (A : Option Addr) (n c : Nat) (SL : List (Int × List PV × List Value)), v = .slice A n c ∧ n ≤ c ∧ c ≤ maxLen ∧ Rws w 29 A n (SL.map fun s => s.2.2) ∧ ∀ s ∈ SL, StI w s.1 s.2.1 s.2.2 := by
  obtain ⟨a, len, cap, rfl⟩ := okWide_slice Tryz.underlying46 hv
  obtain ⟨fuel, hf⟩ := h
  have hcs : (Value.slice a len cap).cells.toList = [Value.slice a len cap] := by simp [Value.cells]
  rw [hcs] at hf
  obtain ⟨A, n, c, zs, h1, h2, h3, h4, h5⟩ := open_rows_R (K := 29) (R := fun z => ∃ kd vs, StI w kd vs z) Tryz.underlying46 (fun f cs' x' hx => by
    obtain ⟨kd, vs, q1, q2, q3⟩ := st_of_trod hx
    exact ⟨q1.len, kd, vs, q1, q2, q3⟩) (by kernel_rfl) (by decide) hf
  obtain ⟨SL, e, hS⟩ := steps_of fun z hz => (h5 z hz).2
  injection h1 with h1
  exact ⟨A, n, c, SL, h1, h2, h3, by rw [e]; exact h4, hS⟩
end

section
open Go Go.RowKit Go.Shelf
open Go.Lib (itoa)

theorem parse_text (SL : List (Int × List PV × List Value)) (V W : World) (E : EnvS W) (hL : ∀ s ∈ SL, LnOk V s) (hn : SL.length ≤ 40) :
    Calls Tryz.prog 27 #[.string (bs (textX (SL.map lnT)))] W fun r w' => ∃ (A : Option Addr) (c : Nat) (rows : List (Int × List PV × List Value)), r = .returned (.tuple #[.slice A SL.length c, .nilIface]) ∧ Rws w' 29 A SL.length (rows.map fun s => s.2.2) ∧ (∀ (j : Nat) s t, SL[j]? = some s → rows[j]? = some t → StC w' s.1 s.2.1 t.2.2) ∧ Below W.heap.size W w' := by
  have hsz := textX_len (M := 27000594) (l := SL.map lnT) fun x hx => by
    obtain ⟨s, hs, rfl⟩ := List.mem_map.1 hx
    exact (hL s hs).len
  rw [List.length_map] at hsz
  have h2 : SL.length * (27000594 + 1) ≤ 40 * (27000594 + 1) := Nat.mul_le_mul_right _ hn
  cases SL with
  | nil =>
    refine (parse_nil W).mono fun r w' h => ⟨none, 0, [], h.1, Rws.nil_, fun _ _ _ h1 _ => absurd h1 (by simp), h.2⟩
  | cons s0 SL =>
    have hrd : ∀ (j : Nat) s, (s0 :: SL)[j]? = some s → ∃ k : Nat, s.1 = k ∧ rdLine (lnT s) = .ok k s.2.1 := fun j s hj => by
      have hs := hL s (List.mem_of_getElem? hj)
      obtain ⟨k, e, hk⟩ := hs.k
      exact ⟨k, e, by unfold lnT; rw [e]; exact rdLine_wr hk hs.ok⟩
    have hsp : splitL 10 (bs (textX ((s0 :: SL).map lnT))).data.toList = (s0 :: SL).map lnT ++ [[]] := by
      rw [bs_list]
      refine text_split fun l hl => ?_
      obtain ⟨s, hs, rfl⟩ := List.mem_map.1 hl
      obtain ⟨k, e, hk⟩ := (hL s hs).k
      unfold lnT
      rw [e]
      exact line_seen hk (hL s hs).ok
    refine (parse_lines (bs (textX ((s0 :: SL).map lnT))) ((s0 :: SL).map lnT) W E (by rw [bs_size]; omega) hsp (by simp) (by rw [List.length_map]; omega) (s0 :: SL).length [] (by rw [List.length_map]; exact Nat.le_refl _) (fun j l _ hl => ?_) (fun l hl => ?_)).mono fun r w' h => ?_
    · rw [List.getElem?_map, Option.map_eq_some_iff] at hl
      obtain ⟨s, hs, rfl⟩ := hl
      obtain ⟨k, _, h⟩ := hrd j s hs
      exact ⟨k, _, h⟩
    · rw [List.getElem?_eq_none (by rw [List.length_map]; exact Nat.le_refl _)] at hl; cases hl
    · obtain ⟨v, rows, rfl, hO, hR, hl, hB⟩ := h.1 (by rw [List.length_map])
      obtain ⟨A, c, rfl, hr⟩ := hO.rws
      rw [List.length_map, hl] at hr ⊢
      refine ⟨A, c, rows, rfl, hr, fun j s t h1 h2 => ?_, hB⟩
      obtain ⟨⟨l, hl2, k, e, hk⟩, hst⟩ := hR j t h2
      rw [List.getElem?_map, h1] at hl2
      injection hl2 with hl2
      obtain ⟨k', e', hk'⟩ := hrd j s h1
      rw [← hl2, hk'] at hk
      injection hk with q1 q2
      rw [e', q1, q2, ← e]
      exact hst.c
end
end Go.Proofs.YtmicohmbmgbnkaaGreatDoor
