/- Arenas, call after call: what is handed on; the page's example. -/
import Derived.Test.YtbeanjaenmpoeaaDoorTmQ
namespace Go.Proofs.YtbeanjaenmpoeaaDoor
open Go.RowKit Go.Maps

/-- Blocks of other types than an arena's stay. -/
def Stay (w w' : World) : Prop := ∀ (q : Nat) (cur : Array Value) (t : TypeId) (fr : Nat × Nat), w.heap[q]? = some (.cells cur t fr) → t ≠ 90 → t ≠ 59 → t ≠ 3 → w'.heap[q]? = some (.cells cur t fr)
theorem Stay.refl (w : World) : Stay w w := fun _ _ _ _ h _ _ _ => h
theorem Stay.trans {a b c : World} (h : Stay a b) (k : Stay b c) : Stay a c := fun q cur t fr hq h1 h2 h3 => k q cur t fr (h q cur t fr hq h1 h2 h3) h1 h2 h3
theorem Stay.of_below {w w' : World} (h : Below w.heap.size w w') : Stay w w' := fun q _ _ _ hq _ _ _ => (h.block q (Array.getElem?_eq_some_iff.1 hq).1).trans hq
theorem Stay.of_keeps {w w' : World} {B : Nat} {A : Ar} (H : Arena w B A) (h : Keeps A.has w w') : Stay w w' := fun q cur t fr hq h1 h2 h3 =>
  (h.block q (Array.getElem?_eq_some_iff.1 hq).1 fun hf => by
    have hT : Typ w q t := ⟨_, _, hq⟩
    rcases hf with rfl | rfl | hf | hf
    · exact hT.ne ⟨_, _, H.blk⟩ h1 rfl
    · obtain ⟨D, ⟨es, cl, hb, _⟩, _⟩ := H.map
      exact hT.no_map hb rfl
    · exact hT.ne (H.nodes.typ hf) h2 rfl
    · exact hT.ne (OwnR.typ H.sizes hf) h3 rfl).trans hq
/-- An arena made since w, of the terms L. -/
def St (w : World) (g : Nat) (W : World) (L : List Tm) : Prop := ∃ A : Ar, A.g = g ∧ A.L = L ∧ Arena W w.heap.size A ∧ Below w.heap.size w W
theorem St.below {w : World} {g : Nat} {W : World} {L : List Tm} (h : St w g W L) : Below w.heap.size w W := by obtain ⟨_, _, _, _, h⟩ := h; exact h
theorem St.good {w : World} {g : Nat} {W : World} {L : List Tm} (h : St w g W L) : Good L := by obtain ⟨A, _, rfl, H, _⟩ := h; exact H.good
theorem St.few {w : World} {g : Nat} {W : World} {L : List Tm} (h : St w g W L) : L.length ≤ 100 := by obtain ⟨A, _, rfl, H, _⟩ := h; rw [A.L_len]; exact H.few
theorem St.keep {w : World} {g : Nat} {W W' : World} {L : List Tm} (h : St w g W L) (hb : Below W.heap.size W W') : St w g W' L := by
  obtain ⟨A, h1, h2, H, hB⟩ := h
  exact ⟨A, h1, h2, H.keep hb, hB.trans (hb.mono hB.size)⟩
theorem St.start {w : World} {A : Ar} {W : World} (hN : A.N = []) (h : Arena W w.heap.size A) (hb : Below w.heap.size w W) : St w A.g W [] := ⟨A, rfl, by simp [Ar.L, hN], h, hb⟩
/-- A term more. -/
def SR (w : World) (g : Nat) (W : World) (L : List Tm) (o : Option Tm) (r : Ending) (W' : World) : Prop := ∃ L' x, r = .returned (.int .i64 x) ∧ St w g W' L' ∧ Grow L L' o ∧ Nm L' x o ∧ Stay W W' ∧ W.heap.size ≤ W'.heap.size
theorem St.put {w : World} {g : Nat} {W : World} {L : List Tm} {o : Option Tm} {P : Program} {f : FuncId} {args : Array Value} (h : St w g W L) (hL : L.length < 100)
    (hc : ∀ A, A.g = g → A.L = L → Arena W w.heap.size A → w.heap.size ≤ W.heap.size → A.N.length < 100 → Calls P f args W (PutR W w.heap.size A o)) : Calls P f args W (SR w g W L o) := by
  obtain ⟨A, h1, h2, H, hB⟩ := h
  refine (hc A h1 h2 H hB.size (by rw [← A.L_len, h2]; exact hL)).mono ?_
  rintro r W' ⟨A', x, rfl, hG, hM⟩
  exact ⟨A'.L, x, rfl, ⟨A', hG.same.trans h1, rfl, hG.arena, hB.trans (hG.keeps.below (fun k hk => (H.has_ge hk).1) hB.size)⟩, h2 ▸ hG.grow, hM, Stay.of_keeps H hG.keeps, hG.keeps.size⟩
section
variable {w : World} {g : Nat} {W : World} {L : List Tm} (h : St w g W L) (hL : L.length < 100)
include h hL
theorem St.data (s : List UInt8) (hs : s.length ≤ 4000000000) : Calls Tryd.prog 13 #[.pointer (some ⟨g, 0, none⟩), .string (bs s)] W (SR w g W L (dataT s)) :=
  h.put hL fun A h1 _ H hB hN => by subst h1; exact data_any A _ W H hB hN s hs
theorem St.nonce (p q : Int) : Calls Tryd.prog 18 #[.pointer (some ⟨g, 0, none⟩), .int .i64 p, .int .i64 q] W (SR w g W L (nonceT p q)) :=
  h.put hL fun A h1 _ H hB hN => by subst h1; exact nonce_any A _ W H hB hN p q
theorem St.key (p : Int) : Calls Tryd.prog 26 #[.pointer (some ⟨g, 0, none⟩), .int .i64 p] W (SR w g W L (keyT p)) :=
  h.put hL fun A h1 _ H hB hN => by subst h1; exact key_any A _ W H hB hN p
theorem St.base (s : List UInt8) (hs : s.length ≤ 4000000000) : Calls Tryd.prog 16 #[.pointer (some ⟨g, 0, none⟩), .string (bs s)] W (SR w g W L (baseT s)) :=
  h.put hL fun A h1 _ H hB hN => by subst h1; exact base_any A _ W H hB hN s hs
theorem St.pub (x : Int) : Calls Tryd.prog 37 #[.pointer (some ⟨g, 0, none⟩), .int .i64 x] W (SR w g W L (pubT (get L x))) :=
  h.put hL fun A h1 h2 H hB hN => by subst h1; subst h2; exact pub_any A _ W H hB hN x
theorem St.hash (x : Int) : Calls Tryd.prog 27 #[.pointer (some ⟨g, 0, none⟩), .int .i64 x] W (SR w g W L (hashT (get L x))) :=
  h.put hL fun A h1 h2 H hB hN => by subst h1; subst h2; exact hash_any A _ W H hB hN x
theorem St.list (ys : List Int) (Aa : Option Addr) (m c : Nat) (hm : m ≤ 1000) (hY : Ints W Aa m ys) : Calls Tryd.prog 15 #[.pointer (some ⟨g, 0, none⟩), .slice Aa m c] W (SR w g W L (listT (ys.map (get L)))) :=
  h.put hL fun A h1 h2 H hB hN => by subst h1; subst h2; exact list_any A _ W H hB hN ys Aa m c hm hY
end
section
variable {w : World} {g : Nat} {W : World} {L : List Tm} (h : St w g W L)
include h
theorem St.size (x : Int) : Calls Tryd.prog 14 #[.pointer (some ⟨g, 0, none⟩), .int .i64 x] W fun r w' => r = .returned (.int .i64 (sizeO (get L x))) ∧ W = w' := by
  obtain ⟨A, rfl, rfl, H, _⟩ := h; exact size_any A _ W H x
theorem St.kind (x : Int) : Calls Tryd.prog 29 #[.pointer (some ⟨g, 0, none⟩), .int .i64 x] W fun r w' => r = .returned (.int .i64 (kindO (get L x))) ∧ W = w' := by
  obtain ⟨A, rfl, rfl, H, _⟩ := h; exact kind_any A _ W H x
theorem St.len : Calls Tryd.prog 21 #[.pointer (some ⟨g, 0, none⟩)] W fun r w' => r = .returned (.int .i64 L.length) ∧ W = w' := by
  obtain ⟨A, rfl, rfl, H, _⟩ := h; rw [A.L_len]; exact len_any A _ W H
end
theorem Nm.at_ {L : List Tm} (h : L.Nodup) {x : Int} {t : Tm} {j : Nat} (hx : Nm L x (some t)) (hj : L[j]? = some t) : x = j := by
  obtain ⟨i, rfl, hi⟩ := get_some hx.1
  rw [once_inj h hi hj]
theorem Grow.old {L L' : List Tm} {t : Tm} (h : Grow L L' (some t)) (ht : t ∈ L) : L' = L := by
  rcases h with ⟨h, _⟩ | ⟨u, e, hu, _⟩
  · exact h
  · obtain rfl := Option.some.inj e; exact absurd ht hu
theorem Grow.fresh {L L' : List Tm} {t : Tm} (h : Grow L L' (some t)) (ht : t ∉ L) : L' = L ++ [t] := by
  rcases h with ⟨_, h⟩ | ⟨u, e, _, h⟩
  · exact absurd (h t rfl) ht
  · obtain rfl := Option.some.inj e; exact h
theorem Grow.none_eq {L L' : List Tm} (h : Grow L L' none) : L' = L := by
  rcases h with ⟨h, _⟩ | ⟨u, e, _⟩
  · exact h
  · cases e

def ta : Tm := .mk 1 0 0 [97] []
def tk : Tm := .mk 3 0 0 [] []
def tp : Tm := .mk 4 0 0 [] [tk]
theorem ta_eq : dataT [97] = some ta := by simp [dataT, mkO, alls, own, lens, ta]
theorem tk_eq : keyT 0 = some tk := by simp [keyT, numOk, mkO, alls, own, lens, tk]
theorem tk_len : tk.len = 5 := by rw [tk, len_mk (.inr (.inr (.inl ⟨rfl, by decide, rfl, rfl, rfl⟩)))]; simp [own, lens]
theorem tp_eq : pubT (some tk) = some tp := by
  have h := tk_len
  unfold pubT
  rw [if_pos (show kindO (some tk) = 3 from rfl)]
  simp [mkO, alls, own, lens, tp, h]
theorem St.awake1 {w : World} {g : Nat} {W : World} {L' : List Tm} {x : Int} (h : St w g W L') (hG : Grow [] L' (dataT [97])) (hM : Nm L' x (dataT [97])) : St w g W [ta] ∧ x = 0 := by
  rw [ta_eq] at hG hM
  obtain rfl := hG.fresh (by simp)
  exact ⟨h, hM.at_ h.good.once (j := 0) rfl⟩
theorem St.awake2 {w : World} {g : Nat} {W : World} {L' : List Tm} {x : Int} (h : St w g W L') (hG : Grow [ta] L' (dataT [97])) (hM : Nm L' x (dataT [97])) : St w g W [ta] ∧ x = 0 := by
  rw [ta_eq] at hG hM
  obtain rfl := hG.old (by simp)
  exact ⟨h, hM.at_ h.good.once (j := 0) rfl⟩
theorem St.awake3 {w : World} {g : Nat} {W : World} {L' : List Tm} {x : Int} (h : St w g W L') (hG : Grow [ta] L' (keyT 0)) (hM : Nm L' x (keyT 0)) : St w g W [ta, tk] ∧ x = 1 := by
  rw [tk_eq] at hG hM
  obtain rfl := hG.fresh (by simp [ta, tk])
  exact ⟨h, hM.at_ h.good.once (j := 1) rfl⟩
theorem St.awake4 {w : World} {g : Nat} {W : World} {L' : List Tm} {x : Int} (h : St w g W L') (hG : Grow [ta, tk] L' (pubT (get [ta, tk] 1))) (hM : Nm L' x (pubT (get [ta, tk] 1))) : St w g W [ta, tk, tp] ∧ x = 2 := by
  rw [show get [ta, tk] 1 = some tk from rfl, tp_eq] at hG hM
  obtain rfl := hG.fresh (by simp [ta, tk, tp])
  exact ⟨h, hM.at_ h.good.once (j := 2) rfl⟩
theorem awake01 (w : World) : Calls Tryd.prog 11 #[] w fun r w' => r = .returned (.bool true) ∧ Below w.heap.size w w' := by
  have cN := Lib.hid (tnew_any w)
  go_enter Tryd.func11, Tryd.ntmps11
  go_upto_region 2 with (first
    | (go_at_call 12; refine cN.out.mono ?_; rintro r w1 ⟨A, rfl, hN, hA, hb⟩
       have hS0 := St.start hN hA hb
       have cD1 := Lib.hid (hS0.data (by decide) [97] (by decide))
       clear hN hA hb cN hS0
       generalize A.g = g at *))
  go_upto_region 3 with (first
    | (go_at_call 13; refine cD1.out.mono ?_; rintro r w2 ⟨L1, x1, rfl, h1, hG, hM, -, -⟩
       obtain ⟨h1, rfl⟩ := h1.awake1 hG hM
       have cD2 := Lib.hid (h1.data (by decide) [97] (by decide))
       clear hG hM cD1 h1)
    | (go_at_call 13; refine cD2.out.mono ?_; rintro r w3 ⟨L2, x2, rfl, h2, hG, hM, -, -⟩
       obtain ⟨h2, rfl⟩ := h2.awake2 hG hM
       have cK := Lib.hid (h2.key (by decide) 0)
       clear hG hM cD2 h2)
    | (go_at_call 26; refine cK.out.mono ?_; rintro r w4 ⟨L3, x3, rfl, h3, hG, hM, -, -⟩
       obtain ⟨h3, rfl⟩ := h3.awake3 hG hM
       have cP := Lib.hid (h3.pub (by decide) 1)
       clear hG hM cK h3))
  go_wp2_with (first
    | (go_at_call 37; refine cP.out.mono ?_; rintro r w5 ⟨L4, x4, rfl, h4, hG, hM, -, -⟩
       obtain ⟨h4, rfl⟩ := h4.awake4 hG hM
       have cL := Lib.hid h4.len
       have hBz := Lib.hid h4.below
       clear hG hM cP h4)
    | (go_at_call 21; refine cL.out.mono ?_; rintro r w6 ⟨rfl, rfl⟩))
  go_ret
  exact ⟨rfl, hBz.out⟩
end Go.Proofs.YtbeanjaenmpoeaaDoor
