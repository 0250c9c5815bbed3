/- Texts joined: what each shows stands ahead of its theorems. -/
import Derived.Test.YtphnakdgpilcmaaGreatDoorHb17
import Derived.Test.YtphnakdgpilcmaaGreatDoorHb13
namespace Go.Proofs.YtphnakdgpilcmaaGreatDoor
section
open Go.RowKit Go.Maps

mutual
/-- How many terms a term is made of. -/
def tsz : Tm → Nat
  | .mk _ _ _ _ args => 1 + tszs args
def tszs : List Tm → Nat
  | [] => 0
  | t :: r => tsz t + tszs r
end
theorem tsz_mk (k a b : Nat) (s : List UInt8) (args : List Tm) : tsz (.mk k a b s args) = 1 + tszs args := by rw [tsz]
theorem tsz_eq (t : Tm) : tsz t = 1 + tszs t.args := by obtain ⟨k, a, b, s, args⟩ := t; exact tsz_mk k a b s args
mutual
theorem tsz_le : ∀ t : Tm, tsz t ≤ t.enc.length
  | .mk k a b s args => by rw [tsz, enc_mk]; have := tszs_le args; simp; omega
theorem tszs_le : ∀ l : List Tm, tszs l ≤ (encs l).length
  | [] => by simp [tszs]
  | t :: r => by rw [tszs, encs]; have := tsz_le t; have := tszs_le r; simp; omega
end
theorem tsz_mem {u : Tm} : ∀ {l : List Tm}, u ∈ l → tsz u ≤ tszs l
  | t :: r, h => by
    rw [tszs]
    rcases List.mem_cons.1 h with rfl | h
    · omega
    · have := tsz_mem h; omega
theorem tsz_arg {t u : Tm} (h : u ∈ t.args) : tsz u < tsz t := by rw [tsz_eq t]; have := tsz_mem h; omega
theorem tszs_take {l : List Tm} {j : Nat} {u : Tm} (h : l[j]? = some u) : tszs (l.take (j + 1)) = tszs (l.take j) + tsz u := by
  induction l generalizing j with
  | nil => simp at h
  | cons x r ih =>
    cases j with
    | zero => simp at h; subst h; simp [tszs]
    | succ j =>
      rw [List.getElem?_cons_succ] at h
      rw [List.take_succ_cons, List.take_succ_cons, tszs, tszs, ih h]; omega
theorem tszs_take_le (l : List Tm) (j : Nat) : tszs (l.take j) ≤ tszs l := by
  induction l generalizing j with
  | nil => simp
  | cons x r ih =>
    cases j with
    | zero => simp [tszs]
    | succ j => rw [List.take_succ_cons, tszs, tszs]; have := ih j; omega
/-- What is noted is right: 1 of a term that can be made; 2 of one that can't be, or of one in progress (P). -/
def AskOk (H L : List Tm) (P : Tm → Prop) (f : Int → Option Int) : Prop := ∀ x v, f x = some v → (v = 1 ∧ ∃ t, get L x = some t ∧ der H t) ∨ (v = 2 ∧ ∀ t, get L x = some t → ¬ der H t ∨ P t)
theorem AskOk.nil_ (H L : List Tm) (P : Tm → Prop) : AskOk H L P (fun _ => none) := fun _ _ h => by cases h
theorem AskOk.start {H L : List Tm} {P : Tm → Prop} {f : Int → Option Int} (h : AskOk H L P f) {x : Int} {t : Tm} (hx : get L x = some t) : AskOk H L (fun u => P u ∨ u = t) (setF f x 2) := fun y v hv => by
  unfold setF at hv
  by_cases e : y = x
  · rw [if_pos e] at hv
    refine .inr ⟨(Option.some.inj hv).symm, fun u hu => .inr (.inr ?_)⟩
    rw [e, hx] at hu
    exact (Option.some.inj hu).symm
  · rw [if_neg e] at hv
    rcases h y v hv with h | ⟨h1, h2⟩
    · exact .inl h
    · exact .inr ⟨h1, fun u hu => (h2 u hu).imp id .inl⟩
theorem AskOk.yes {H L : List Tm} {P : Tm → Prop} {f : Int → Option Int} {t : Tm} (h : AskOk H L (fun u => P u ∨ u = t) f) {x : Int} (hL : L.Nodup) (hx : get L x = some t) (hd : der H t) : AskOk H L P (setF f x 1) := fun y v hv => by
  unfold setF at hv
  by_cases e : y = x
  · rw [if_pos e] at hv
    exact .inl ⟨(Option.some.inj hv).symm, t, by rw [e]; exact hx, hd⟩
  · rw [if_neg e] at hv
    rcases h y v hv with h | ⟨h1, h2⟩
    · exact .inl h
    · refine .inr ⟨h1, fun u hu => ?_⟩
      rcases h2 u hu with h3 | h3 | h3
      · exact .inl h3
      · exact .inr h3
      · subst h3; exact absurd (get_inj hL hu hx) e
theorem AskOk.no_ {H L : List Tm} {P : Tm → Prop} {f : Int → Option Int} {t : Tm} (h : AskOk H L (fun u => P u ∨ u = t) f) (hd : ¬ der H t) : AskOk H L P f := fun y v hv => by
  rcases h y v hv with h | ⟨h1, h2⟩
  · exact .inl h
  · refine .inr ⟨h1, fun u hu => ?_⟩
    rcases h2 u hu with h3 | h3 | h3
    · exact .inl h3
    · exact .inr h3
    · subst h3; exact .inl hd
theorem i64_get {L : List Tm} {x : Int} {t : Tm} (h : get L x = some t) (hl : L.length ≤ 100) : i64 x := by
  obtain ⟨j, rfl, hj⟩ := get_some h
  have := (List.getElem?_eq_some_iff.1 hj).1
  exact i64_small (by omega) (by omega)
/-- Can it be made, so far? -/
def CanR (H L : List Tm) (P : Tm → Prop) (ba nb k : Nat) (d : Prop) (W : World) (r : Ending) (W' : World) : Prop :=
  ∃ (q : Bool) (f' : Int → Option Int) (nb' : Nat), r = .returned (.bool q) ∧ (q = true ↔ d) ∧ AskOk H L P f' ∧ IMap W' ba nb' f' ∧ nb' ≤ nb + k ∧ Keeps (fun z => z = ba) W W'
def CanP (V1 : World) (m ba n : Nat) (L ls : List Tm) (t : Tm) : Prop := ∀ (W : World) (x : Int) (P : Tm → Prop) (f : Int → Option Int) (nb : Nat), Below V1.heap.size V1 W → get L x = some t → AskOk (ls.take n) L P f → (∀ u, P u → tsz t < tsz u) → IMap W ba nb f → nb + 2 * tsz t ≤ 999999 →
  Calls Tryz.prog 33 #[.pointer (some ⟨m, 0, none⟩), .int .i64 x, .int .i64 n, .map (some ba)] W (CanR (ls.take n) L P ba nb (2 * tsz t) (der (ls.take n) t) W)
def MakesP (V1 : World) (m ba n : Nat) (L ls : List Tm) (t : Tm) : Prop := ∀ (W : World) (x : Int) (P : Tm → Prop) (f : Int → Option Int) (nb : Nat), Below V1.heap.size V1 W → get L x = some t → AskOk (ls.take n) L P f → (∀ u, P u → tsz t ≤ tsz u) → IMap W ba nb f → nb + 2 * tszs t.args ≤ 999999 → t ∉ ls.take n →
  Calls Tryz.prog 75 #[.pointer (some ⟨m, 0, none⟩), .int .i64 x, .int .i64 n, .map (some ba)] W (CanR (ls.take n) L P ba nb (2 * tszs t.args) (der (ls.take n) t) W)
set_option maxRecDepth 100000 in
set_option maxHeartbeats 4000000 in
theorem can_step {V V1 w0 : World} {g m b : Nat} {A : Option Addr} {c : Nat} {its : List It} {L ls : List Tm} {n ba : Nat} (hM : MindW V V1 g m b A c its) (hS : St w0 g V1 L) (hN : Named L its ls) (hba : V1.heap.size ≤ ba) (t : Tm) (hmk : MakesP V1 m ba n L ls t) : CanP V1 m ba n L ls t := by
  intro W x P f nb hb hx hA hP hI hnb
  have hx64 := i64_get hx hS.few
  have cH := Lib.hid (mhas_any (hM.keep hb) x hx64 n)
  have hhas := hN.has hS.good.once hx n
  have hte := tsz_eq t
  cases hh : hasM (itsT its) x n with
  | true =>
    rw [hh] at cH hhas
    have hq := Lib.hid (show CanR (ls.take n) L P ba nb (2 * tsz t) (der (ls.take n) t) W (.returned (.bool true)) W from ⟨true, f, nb, rfl, by simp only [true_iff]; exact der_had (hhas.1 rfl), hA, hI, by omega, Keeps.refl _ _⟩)
    clear hmk hM hS hN hb hx hA hP hI hnb hhas hh hte
    go_enter Tryz.func33, Tryz.ntmps33
    go_wp2_with (go_at_call 34; refine cH.out.mono ?_; rintro r w2 ⟨rfl, rfl⟩)
    go_ret
    exact hq.out
  | false =>
    rw [hh] at cH hhas
    have hnot : t ∉ ls.take n := fun h => by have := hhas.2 h; cases this
    have hl := hI.look1 hx64
    cases hf : f x with
    | some v =>
      rw [hf] at hl
      simp only [Option.getD_some] at hl
      rcases hA x v hf with ⟨rfl, u, hu, hd⟩ | ⟨rfl, hno⟩
      · rw [hx] at hu
        obtain rfl := Option.some.inj hu
        have hq := Lib.hid (show CanR (ls.take n) L P ba nb (2 * tsz t) (der (ls.take n) t) W (.returned (.bool true)) W from ⟨true, f, nb, rfl, by simp only [true_iff]; exact hd, hA, hI, by omega, Keeps.refl _ _⟩)
        clear hmk hM hS hN hb hx hA hP hI hnb hhas hh hf hd hnot hte
        go_enter Tryz.func33, Tryz.ntmps33
        go_wp2_with (go_at_call 34; refine cH.out.mono ?_; rintro r w2 ⟨rfl, rfl⟩)
        go_ret
        exact hq.out
      · have hd : ¬ der (ls.take n) t := (hno t hx).elim id fun h => absurd (hP t h) (Nat.lt_irrefl _)
        have hq := Lib.hid (show CanR (ls.take n) L P ba nb (2 * tsz t) (der (ls.take n) t) W (.returned (.bool false)) W from ⟨false, f, nb, rfl, ⟨fun h => (by cases h), fun h => absurd h hd⟩, hA, hI, by omega, Keeps.refl _ _⟩)
        clear hmk hM hS hN hb hx hA hP hI hnb hhas hh hf hd hnot hno hte
        go_enter Tryz.func33, Tryz.ntmps33
        go_wp2_with (go_at_call 34; refine cH.out.mono ?_; rintro r w2 ⟨rfl, rfl⟩)
        go_ret
        exact hq.out
    | none =>
      rw [hf] at hl
      simp only [Option.getD_none] at hl
      obtain ⟨W1, hr1, hI1, hg1⟩ := hI.set_ (by omega) hx64 (i64_small (x := 2) (by decide) (by decide))
      have hK1 : Keeps (fun z => z = ba) W W1 := Keeps.of_grown hg1 fun q hq => (Option.some.inj hq).symm
      have hb1 : Below V1.heap.size V1 W1 := hb.trans (hK1.below (fun k hk => by have hk : k = ba := hk; omega) hb.size)
      have cM := hmk W1 x (fun u => P u ∨ u = t) (setF f x 2) (nb + 1) hb1 hx (hA.start hx) (fun u hu => hu.elim (fun h => Nat.le_of_lt (hP u h)) fun h => by rw [h]; exact Nat.le_refl _) hI1 (by omega) hnot
      by_cases hd : der (ls.take n) t
      · have cM := Lib.hid (Calls.mono cM fun (r : Ending) (W' : World) ⟨q, f', nb', h1, h2, h3, h4, h5, h6⟩ => (show r = Ending.returned (.bool true) ∧ ∃ W2, (Instr.mapUpdate 69 (.map (some ba)) (.int .i64 x) (.int .i64 1)).run Tryz.prog W' = Result.ok () W2 ∧ CanR (ls.take n) L P ba nb (2 * tsz t) (der (ls.take n) t) W (.returned (.bool true)) W2 by
          obtain rfl := h2.2 hd
          obtain ⟨W2, r2, i2, g2⟩ := h4.set_ (by omega) hx64 (i64_small (x := 1) (by decide) (by decide))
          exact ⟨h1, W2, r2, true, _, _, rfl, by simp only [true_iff]; exact hd, h3.yes hS.good.once hx hd, i2, by omega, (hK1.trans h6).trans (Keeps.of_grown g2 fun q hq => (Option.some.inj hq).symm)⟩))
        clear hmk hM hS hN hb hx hA hP hI hnb hhas hh hf hd hnot hI1 hg1 hK1 hb1 hte
        go_enter Tryz.func33, Tryz.ntmps33
        go_wp2_with (first
          | (go_at_call 34; refine cH.out.mono ?_; rintro r w2 ⟨rfl, rfl⟩)
          | (go_at_call 75; refine cM.out.mono ?_; rintro r w3 ⟨rfl, W2, hr2, hq⟩; replace hq := Lib.hid hq))
        go_ret
        exact hq.out
      · have cM := Lib.hid (Calls.mono cM fun (r : Ending) (W' : World) ⟨q, f', nb', h1, h2, h3, h4, h5, h6⟩ => (show r = Ending.returned (.bool false) ∧ CanR (ls.take n) L P ba nb (2 * tsz t) (der (ls.take n) t) W (.returned (.bool false)) W' by
          obtain rfl : q = false := by cases q with | false => rfl | true => exact absurd (h2.1 rfl) hd
          exact ⟨h1, false, f', nb', rfl, ⟨fun h => (by cases h), fun h => absurd h hd⟩, h3.no_ hd, h4, by omega, hK1.trans h6⟩))
        clear hmk hM hS hN hb hx hA hP hI hnb hhas hh hf hd hnot hI1 hg1 hK1 hb1 hte
        go_enter Tryz.func33, Tryz.ntmps33
        go_wp2_with (first
          | (go_at_call 34; refine cH.out.mono ?_; rintro r w2 ⟨rfl, rfl⟩)
          | (go_at_call 75; refine cM.out.mono ?_; rintro r w3 ⟨rfl, hq⟩; replace hq := Lib.hid hq))
        go_ret
        exact hq.out
end

section
open Go.RowKit Go.Maps

theorem kind_cases {t : Tm} (h : t.ok) : t.kind = 1 ∨ t.kind = 2 ∨ t.kind = 3 ∨ t.kind = 5 ∨ (t.kind = 4 ∨ t.kind = 6 ∨ t.kind = 7 ∨ t.kind = 8 ∨ t.kind = 9 ∨ t.kind = 10) := by have := ok_kind h; omega
theorem off_ba {V1 W : World} {ba : Nat} {v : Value} {zs : List (List Value)} {k : Nat} {E : TypeId} (h : OwnR W V1.heap.size k E v zs) (hba : ba < V1.heap.size) : OffV (fun z => z = ba) v := fun q hq e => by
  have := h.lt q hq
  have e : q = ba := e
  omega
theorem own_at {w w' : World} {B ba : Nat} {Av : Option Addr} {n cv : Nat} {l : List Int} (h : OwnD w B (.slice Av n cv) l) (hK : Keeps (fun z => z = ba) w w') (hba : ba < B) {j : Nat} {x : Int} (hx : l[j]? = some x) : ∃ b off, Av = some ⟨b, off, none⟩ ∧ w'.cell? ⟨b, off + j, none⟩ = some (.int .i64 x) := by
  have h' : OwnD w' B (.slice Av n cv) l := OwnR.keepF h hK fun q hq e => by
    have := OwnR.lt h q hq
    have e : q = ba := e
    omega
  obtain ⟨A, c, e, hI⟩ := h'.ints
  injection e with e1 _ _
  subst e1
  obtain ⟨b, off, y, rfl, _, hy, hc⟩ := hI.at_ (List.getElem?_eq_some_iff.1 hx).1
  rw [hx] at hy
  obtain rfl := Option.some.inj hy
  exact ⟨b, off, rfl, hc⟩
theorem zip_at {L : List Tm} {oz : List (Int × Tm)} {args : List Tm} (h2 : oz.map Prod.snd = args) (h3 : ∀ z ∈ oz, get L z.1 = some z.2) {j : Nat} {u : Tm} (hu : args[j]? = some u) : ∃ x, (oz.map Prod.fst)[j]? = some x ∧ get L x = some u := by
  subst h2
  rw [List.getElem?_map] at hu
  cases hz : oz[j]? with
  | none => rw [hz] at hu; cases hu
  | some z =>
    rw [hz] at hu
    obtain rfl := Option.some.inj hu
    exact ⟨z.1, by rw [List.getElem?_map, hz]; rfl, h3 z (List.mem_of_getElem? hz)⟩
/-- What the loop over the parts has. -/
def PartsR (H L : List Tm) (P : Tm → Prop) (ba nb : Nat) (args : List Tm) (W : World) (j : Nat) (wr : World) : Prop :=
  ∃ (f' : Int → Option Int) (nb' : Nat), AskOk H L P f' ∧ IMap wr ba nb' f' ∧ nb' ≤ nb + 2 * tszs (args.take j) ∧ Keeps (fun z => z = ba) W wr ∧ ∀ u ∈ args.take j, der H u
set_option maxRecDepth 100000 in
set_option maxHeartbeats 8000000 in
theorem makes_step {V V1 w0 : World} {g m b : Nat} {A : Option Addr} {c : Nat} {its : List It} {L ls : List Tm} {n ba : Nat} (hM : MindW V V1 g m b A c its) (hS : St w0 g V1 L) (hN : Named L its ls) (hn : n ≤ its.length) (hba : V1.heap.size ≤ ba) (t : Tm) (hc : ∀ u ∈ t.args, CanP V1 m ba n L ls u) : MakesP V1 m ba n L ls t := by
  intro W x P f nb hb hx hA hP hI hnb hnot
  have hok := hS.good.ok t (get_mem hx)
  have hLn := hS.few
  have cV := (hS.keep hb).vown3 x t hx
  obtain ⟨c0, -, -⟩ := (hM.keep hb).c0
  have hbalt := hI.lt
  -- an answer without a change of the map
  have hans := Lib.hid (show ∀ (q : Bool) (W' : World), Below W.heap.size W W' → (q = true ↔ der (ls.take n) t) → CanR (ls.take n) L P ba nb (2 * tszs t.args) (der (ls.take n) t) W (.returned (.bool q)) W' from fun q W' hB hq => ⟨q, f, nb, rfl, hq, hA, hI.keep hB, by omega, Keeps.of_below hB⟩)
  obtain ⟨k, a, b', s, args⟩ := t
  simp only [Tm.kind, Tm.a, Tm.b, Tm.s, Tm.args] at cV
  replace cV := Lib.hid cV
  have hall := Lib.hid (And.intro hM (And.intro hS (And.intro hN (And.intro hc (And.intro hx (And.intro hA (And.intro hP (And.intro hI (And.intro hnb (And.intro hnot (And.intro hok hb)))))))))))
  clear hM hS hN hc hx hA hP hI hnb hnot hok hb
  go_enter Tryz.func75, Tryz.ntmps75
  go_upto_region 2 with (first
    | (go_at_call 23; refine cV.out.mono ?_; rintro r w1 ⟨Av, cv, xs, rfl, hO, hxs, hb1⟩
       obtain ⟨z1, b1, r1⟩ := nd_box2 w1 k a b' s Av args.length cv
       have z1 := Lib.hid z1
       have r1 := Lib.hid r1
       have hB1 := Lib.hid (hb1.trans (b1.mono hb1.size))
       have hO := Lib.hid (OwnR.keep hO b1)
       have hxs := Lib.hid hxs
       clear hb1 cV b1)
    | (refine wpList_store_at 52 _ _ rfl rfl w1.heap.size (ndC k a b' s (.slice Av args.length cv)).toArray rfl rfl 52 zNd.toArray z1.out (by kernel_rfl) rfl nd_all ?_))
  clear z1 c0
  replace r1 := r1.out
  replace hO := hO.out
  replace hB1 := hB1.out
  generalize (w1.alloc (.cells #[.int .i64 0, .int .i64 0, .int .i64 0, .string ⟨#[]⟩, .slice none 0 0] 52)).setRow w1.heap.size (ndC k a b' s (.slice Av args.length cv)).toArray = w2 at *
  generalize w1.heap.size = p1 at *
  obtain ⟨d0, d1, -, -, d4⟩ := box_cells r1
  have r1h := Lib.hid r1
  have hOh := Lib.hid hO
  have hBh := Lib.hid hB1
  clear r1 hO hB1
  rcases kind_cases hall.out.2.2.2.2.2.2.2.2.2.2.1 with hk | hk | hk | hk | hk
  · have hk : k = 1 := hk
    subst hk
    go_wp2_with fail
    go_ret
    exact hans.out true _ hBh.out (by simp only [true_iff]; exact der_data rfl)
  · have hk : k = 2 := hk
    subst hk
    by_cases ha : a = 0
    · subst ha
      go_wp2_with fail
      go_ret
      exact hans.out true _ hBh.out (by simp only [true_iff]; exact (der_nonce rfl).2 (.inr ⟨rfl, rfl⟩))
    · have ha0 : ((a : Int) == 0) = false := by rw [beq_eq_false_iff_ne]; intro e; exact ha (by omega)
      have hah := Lib.hid ha
      clear ha
      go_wp2_with fail
      go_ret
      exact hans.out false _ hBh.out ⟨fun h => (by cases h), fun h => ((der_nonce rfl).1 h).elim (fun h => absurd h hall.out.2.2.2.2.2.2.2.2.2.1) fun h => absurd h.2 hah.out⟩
  · have hk : k = 3 := hk
    subst hk
    go_wp2_with fail
    go_ret
    exact hans.out false _ hBh.out ⟨fun h => (by cases h), fun h => absurd ((der_key rfl).1 h) hall.out.2.2.2.2.2.2.2.2.2.1⟩
  · have hk : k = 5 := hk
    subst hk
    obtain ⟨oz, z1, z2, z3, z4⟩ := zip_named hxs.out
    obtain ⟨hM, hS, hN, -, hx, -, -, -, -, hnot, hok, hb⟩ := hall.out
    have hb2 := hb.trans (hBh.out.mono hb.size)
    have hOD := own_zip hOh.out z1
    obtain ⟨A9, c9, e9, hI9⟩ := hOD.ints
    injection e9 with e1 e2 e3
    subst e1
    have hm8 : args.length ≤ 8 := by
      have := (ok_mk.1 hok).1; unfold okHd at this; omega
    rw [List.length_map] at e2 hI9
    have cR := mraise_any (hM.keep hb2) (hS.keep hb2) hN 5 a b' s oz Av cv hI9 (fun z hz => ⟨i64_get (z3 z hz) hS.few, z3 z hz⟩) n hn (by omega)
      (by rw [z2]; exact ok_sorted hok rfl) (by rw [z2]; exact fun x hx => ⟨ok_args hok x hx, ok_exps hok rfl x hx⟩)
    rw [← e2] at cR
    unfold RaiseR at cR
    rw [z2] at cR
    have hld := Lib.hid (rangeAt_list (cs := ndC 5 a b' s (.slice Av args.length cv)) r1h.out)
    replace cR := Lib.hid cR
    have hder := Lib.hid (show der (ls.take n) (.mk 5 a b' s args) ↔ raiseP (ls.take n) s args from (der_share rfl).trans ⟨fun h => h.elim (fun h => absurd h hnot) id, .inr⟩)
    clear z1 z2 z3 z4 hM hS hN hx hnot hok hb hb2 hOD hI9 e2 e3
    go_upto_region 12 with fail
    go_wp2_with (first
      | (refine wpList_load_at 52 (.tmp 9) rfl rfl p1 0 rfl (ndC 5 a b' s (.slice Av args.length cv)) _ hld.out Tryz.underlying52 rfl (by kernel_rfl) ?_)
      | (go_at_call 101; (with_reducible refine cR.out.mono ?_); rintro r w3 ⟨hb3, i9, v9, q9, rfl, hq9, -⟩; replace hb3 := Lib.hid hb3; replace hq9 := Lib.hid hq9))
    go_ret
    exact hans.out q9 _ (hBh.out.trans (hb3.out.mono hBh.out.size)) (hq9.out.trans hder.out.symm)
  · have k1 : ((k : Int) == 1) = false := by rw [beq_eq_false_iff_ne]; have hk : k = 4 ∨ k = 6 ∨ k = 7 ∨ k = 8 ∨ k = 9 ∨ k = 10 := hk; omega
    have k2 : ((k : Int) == 2) = false := by rw [beq_eq_false_iff_ne]; have hk : k = 4 ∨ k = 6 ∨ k = 7 ∨ k = 8 ∨ k = 9 ∨ k = 10 := hk; omega
    have k3 : ((k : Int) == 3) = false := by rw [beq_eq_false_iff_ne]; have hk : k = 4 ∨ k = 6 ∨ k = 7 ∨ k = 8 ∨ k = 9 ∨ k = 10 := hk; omega
    have k5 : ((k : Int) == 5) = false := by rw [beq_eq_false_iff_ne]; have hk : k = 4 ∨ k = 6 ∨ k = 7 ∨ k = 8 ∨ k = 9 ∨ k = 10 := hk; omega
    have hkh := Lib.hid hk
    have hm8 : args.length ≤ 100 := by
      have := (ok_mk.1 hall.out.2.2.2.2.2.2.2.2.2.2.1).1; unfold okHd at this; omega
    obtain ⟨oz, z1, z2, z3, z4⟩ := zip_named hxs.out
    have hOD := Lib.hid (own_zip hOh.out z1)
    have hz := Lib.hid (And.intro z2 z3)
    have h0 : Hid (PartsR (ls.take n) L P ba nb args W 0 w2) := Lib.hid ⟨f, nb, hall.out.2.2.2.2.2.1, hall.out.2.2.2.2.2.2.2.1.keep hBh.out, by omega, Keeps.of_below hBh.out, fun u hu => by simp at hu⟩
    have hW2 := Lib.hid (show ba < W.heap.size ∧ W.heap.size ≤ w2.heap.size from ⟨hbalt, hBh.out.size⟩)
    clear hk z1 z2 z3 z4 hbalt
    go_wp2_with fail
    go_loopw [52] (fun iv wr => ∃ j : Nat, j ≤ args.length ∧ iv = .int .i64 j ∧ Hid (Keeps (fun z => z = ba) w2 wr) ∧ Hid (PartsR (ls.take n) L P ba nb args W j wr)) (fun iv _ => args.length - (intOf iv).toNat)
    case atStart => exact ⟨0, Nat.zero_le _, rfl, Lib.hid (Keeps.refl _ _), h0⟩
    case round =>
      clear h0
      obtain ⟨j, hj, rfl, hK2, hR⟩ := hrel
      by_cases hlt : j < args.length
      · obtain ⟨u, hu⟩ : ∃ u, args[j]? = some u := ⟨args[j], List.getElem?_eq_getElem hlt⟩
        obtain ⟨zi, hzi, hgz⟩ := zip_at hz.out.1 hz.out.2 hu
        obtain ⟨bb, off, rfl, hcell⟩ := own_at hOD.out hK2.out hW2.out.1 hzi
        obtain ⟨hM, hS, hN, hcan, hx, hA, hP, hI, hnb, hnot, hok, hb⟩ := hall.out
        obtain ⟨f', nb', hA', hI', hn', hK', hd'⟩ := hR.out
        have hmem : u ∈ args := List.mem_of_getElem? hu
        have htk := tszs_take hu
        have hle := tszs_take_le args (j + 1)
        have hbr : Below V1.heap.size V1 wr := hb.trans (hK'.below (fun k hk => by have hk : k = ba := hk; omega) hb.size)
        have cC := hcan u hmem wr zi P f' nb' hbr hgz hA' (fun v hv => Nat.lt_of_lt_of_le (tsz_arg (t := .mk k a b' s args) hmem) (hP v hv)) hI' (by show nb' + 2 * tsz u ≤ 999999; have hnb : nb + 2 * tszs args ≤ 999999 := hnb; omega)
        by_cases hd : der (ls.take n) u
        · have cC := Lib.hid (Calls.mono cC fun (r : Ending) (W' : World) ⟨q, f2, nb2, h1, h2, h3, h4, h5, h6⟩ => (show r = Ending.returned (.bool true) ∧ Keeps (fun z => z = ba) w2 W' ∧ PartsR (ls.take n) L P ba nb args W (j + 1) W' by
            obtain rfl := h2.2 hd
            refine ⟨h1, hK2.out.trans h6, f2, nb2, h3, h4, by omega, hK'.trans h6, fun v hv => ?_⟩
            rw [take_succ_of hu] at hv
            rcases List.mem_append.1 hv with hv | hv
            · exact hd' v hv
            · rw [List.mem_singleton.1 hv]; exact hd))
          clear hM hS hN hcan hx hA hP hI hnb hnot hok hb hA' hI' hn' hK' hd' hbr hgz hzi hu hmem htk hle hd hR
          go_wp2_with (go_at_call 33; refine cC.out.mono ?_; rintro r w3 ⟨rfl, hK3, hR3⟩; replace hK3 := Lib.hid hK3; replace hR3 := Lib.hid hR3)
          go_roundw
          case rel => exact ⟨j + 1, by omega, by go_num, hK3, hR3⟩
          case measure => simp [intOf]; omega
        · have hnd : ¬ der (ls.take n) (.mk k a b' s args) := fun h => ((der_made hkh.out).1 h).elim (fun h => absurd h hnot) fun h => hd (h u hmem)
          have cC := Lib.hid (Calls.mono cC fun (r : Ending) (W' : World) ⟨q, f2, nb2, h1, h2, h3, h4, h5, h6⟩ => (show r = Ending.returned (.bool false) ∧ CanR (ls.take n) L P ba nb (2 * tszs args) (der (ls.take n) (.mk k a b' s args)) W (.returned (.bool false)) W' by
            obtain rfl : q = false := by cases q with | false => rfl | true => exact absurd (h2.1 rfl) hd
            exact ⟨h1, false, f2, nb2, rfl, ⟨fun h => (by cases h), fun h => absurd h hnd⟩, h3, h4, by omega, hK'.trans h6⟩))
          clear hM hS hN hcan hx hA hP hI hnb hnot hok hb hA' hI' hn' hK' hd' hbr hgz hzi hu hmem htk hle hd hR hnd
          go_wp2_with (go_at_call 33; refine cC.out.mono ?_; rintro r w3 ⟨rfl, hq⟩; replace hq := Lib.hid hq)
          go_ret
          exact hq.out
      · go_wp2_with fail
        go_ret
        obtain ⟨f', nb', hA', hI', hn', hK', hd'⟩ := hR.out
        rw [List.take_of_length_le (by omega)] at hn' hd'
        exact ⟨true, f', nb', rfl, by simp only [true_iff]; exact (der_made hkh.out).2 (.inr hd'), hA', hI', hn', hK'⟩
/-- CAN A TERM BE MADE: of any term. -/
theorem can_all {V V1 w0 : World} {g m b : Nat} {A : Option Addr} {c : Nat} {its : List It} {L ls : List Tm} {n ba : Nat} (hM : MindW V V1 g m b A c its) (hS : St w0 g V1 L) (hN : Named L its ls) (hn : n ≤ its.length) (hba : V1.heap.size ≤ ba) : ∀ t, CanP V1 m ba n L ls t :=
  tm_rec fun t ih => can_step hM hS hN hba t (makes_step hM hS hN hn hba t ih)
end

section
open Go Go.RowKit

section
variable {P : Program} {w : World} {o : Oper} {T : Array Value}
/-- '[]T{x}': a new block. -/
theorem run_build1_ (t e : TypeId) (x : Operand) (ho : o.op = .buildSlice t 1 #[(0, x)]) (i : TypeInfo) (z : Value) (cs : Array Value)
    (ht : P.underlying t = some (.slice e)) (hi : P.info? e = some i) (hz : i.zero = some z) {n : Nat} (hn : i.size = n) (hpos : n ≠ 0) (hsmall : n ≤ 16777216)
    (hx : (⟨T, []⟩ : Act).eval x = .agg cs) (hc : cs.size = n) : (execOp (⟨T, []⟩ : Act).eval o).run P w = .ok (.value (.slice (some ⟨w.heap.size, 0, none⟩) 1 1)) (w.alloc (.cells cs e)) := by
  subst hn
  have htI : ∀ w, (typeInfo e).run P w = .ok i w := fun w => by simp [typeInfo, hi]
  have hsz : ∀ w, (sizeOf e).run P w = .ok i.size w := fun w => by unfold sizeOf; rw [Sem.run_bind, htI]; simp
  have hzv : ∀ w, (zeroValue e).run P w = .ok z w := fun w => by unfold zeroValue; rw [Sem.run_bind, htI]; simp [hz]
  have hf' : Instr.fill (fun j => some (j * i.size, i.size)) ((Array.range (1 * i.size)).map (z.cells[· % z.cells.size]!)) [(0, Value.agg cs)] = some cs := fill_one i.size _ cs (by simp) hc
  have hb : (Instr.buildSlice t 1 #[(0, Value.agg cs)]).run P w = .ok (.slice (some ⟨w.heap.size, 0, none⟩) 1 1) (w.alloc (.cells cs e)) := by
    unfold Instr.buildSlice
    rw [Sem.run_bind, run_underlying ht w, Result.andThen_ok]
    simp only [Sem.run_bind, hsz, Result.andThen_ok, show (2 : Nat) ^ 24 = 16777216 from rfl, if_neg (show ¬ 1 * i.size > 16777216 by omega), if_neg (show ¬ 1 * i.size = 0 by omega), hzv, Sem.run_pure, hf', newRow, run_newObj_alloc]
  unfold execOp
  simp only [ho, List.map_toArray, List.map_cons, List.map_nil, hx, Sem.run_bind, hb, Result.andThen_ok, Sem.run_pure]
end
end
end Go.Proofs.YtphnakdgpilcmaaGreatDoor
