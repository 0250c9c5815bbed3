/- Terms, plainly: what a term is; the bytes that write it down; that these tell the term. -/
namespace Go.Proofs.YtbeanjaenmpoeaaDoor

inductive Tm where
  | mk (kind a b : Nat) (s : List UInt8) (args : List Tm)

namespace Tm
def kind : Tm → Nat | mk k _ _ _ _ => k
def a : Tm → Nat | mk _ a _ _ _ => a
def b : Tm → Nat | mk _ _ b _ _ => b
def s : Tm → List UInt8 | mk _ _ _ s _ => s
def args : Tm → List Tm | mk _ _ _ _ l => l
theorem eta (t : Tm) : t = mk t.kind t.a t.b t.s t.args := by cases t; rfl
end Tm

/-- A number below 2^32 as four bytes. -/
def u32 (n : Nat) : List UInt8 := [UInt8.ofNat (n / 16777216 % 256), UInt8.ofNat (n / 65536 % 256), UInt8.ofNat (n / 256 % 256), UInt8.ofNat (n % 256)]
theorem u32_len (n : Nat) : (u32 n).length = 4 := rfl
theorem ofNat_inj {x y : Nat} (hx : x < 256) (hy : y < 256) (h : UInt8.ofNat x = UInt8.ofNat y) : x = y := by
  have := congrArg UInt8.toNat h
  simpa [Nat.mod_eq_of_lt hx, Nat.mod_eq_of_lt hy] using this
theorem u32_inj {x y : Nat} (hx : x < 4294967296) (hy : y < 4294967296) (h : u32 x = u32 y) : x = y := by
  unfold u32 at h
  simp only [List.cons.injEq, and_true] at h
  obtain ⟨h1, h2, h3, h4⟩ := h
  have h1 := ofNat_inj (by omega) (by omega) h1
  have h2 := ofNat_inj (by omega) (by omega) h2
  have h3 := ofNat_inj (by omega) (by omega) h3
  have h4 := ofNat_inj (by omega) (by omega) h4
  omega
theorem app4 {x y : Nat} {r r' : List UInt8} (h : u32 x ++ r = u32 y ++ r') : u32 x = u32 y ∧ r = r' := List.append_inj h rfl

/-- What stands ahead of the terms that a term is made of, behind its first byte. -/
def hd (k a b : Nat) (s : List UInt8) (m : Nat) : List UInt8 :=
  if k = 1 then u32 s.length ++ s
  else if k = 2 then u32 a ++ u32 b
  else if k = 3 then u32 a
  else if k = 5 then u32 s.length ++ s ++ u32 m
  else if k = 6 then u32 s.length ++ s
  else if k = 8 then [UInt8.ofNat b]
  else if k = 9 then u32 b
  else if k = 10 then u32 m
  else []

mutual
def Tm.enc : Tm → List UInt8
  | .mk k a b s args => UInt8.ofNat (240 + k) :: (hd k a b s args.length ++ encs args)
def encs : List Tm → List UInt8
  | [] => []
  | t :: r => t.enc ++ encs r
end
theorem encs_eq : ∀ l : List Tm, encs l = (l.map Tm.enc).flatten
  | [] => by simp [encs]
  | t :: r => by rw [encs, encs_eq r]; rfl
theorem encs_append (l m : List Tm) : encs (l ++ m) = encs l ++ encs m := by simp [encs_eq]
theorem enc_mk (k a b : Nat) (s : List UInt8) (args : List Tm) : (Tm.mk k a b s args).enc = UInt8.ofNat (240 + k) :: (hd k a b s args.length ++ encs args) := by rw [Tm.enc]

/-- By which of two nonces a share is raised first. -/
def nle (x y : Tm) : Prop := x.a < y.a ∨ x.a = y.a ∧ x.b ≤ y.b
instance (x y : Tm) : Decidable (nle x y) := by unfold nle; infer_instance
/-- What a term's own numbers and text may be. -/
def okHd (k a b : Nat) (s : List UInt8) (m : Nat) : Prop :=
  (k = 1 ∧ a = 0 ∧ b = 0 ∧ m = 0 ∧ s.length ≤ 131072) ∨
  (k = 2 ∧ a ≤ 2147483647 ∧ b ≤ 2147483647 ∧ s = [] ∧ m = 0) ∨
  (k = 3 ∧ a ≤ 2147483647 ∧ b = 0 ∧ s = [] ∧ m = 0) ∨
  (k = 4 ∧ a = 0 ∧ b = 0 ∧ s = [] ∧ m = 1) ∨
  (k = 5 ∧ a = 0 ∧ b = 0 ∧ 1 ≤ s.length ∧ s.length ≤ 2100 ∧ m ≤ 8) ∨
  (k = 6 ∧ a = 0 ∧ b = 0 ∧ 1 ≤ s.length ∧ s.length ≤ 64 ∧ m = 2) ∨
  (k = 7 ∧ a = 0 ∧ b = 0 ∧ s = [] ∧ m = 1) ∨
  (k = 8 ∧ a = 0 ∧ b < 256 ∧ s = [] ∧ m = 3) ∨
  (k = 9 ∧ a = 0 ∧ b < 4294967296 ∧ s = [] ∧ m = 2) ∨
  (k = 10 ∧ a = 0 ∧ b = 0 ∧ s = [] ∧ m ≤ 32)
/-- What the terms may be that a term is made of. -/
def okArgs (k : Nat) (args : List Tm) : Prop :=
  (k = 4 → ∀ t ∈ args, t.kind = 3) ∧ (k = 5 → (∀ t ∈ args, t.kind = 2) ∧ args.Pairwise nle) ∧ (k = 6 → ∀ t, args[0]? = some t → t.kind = 3)
mutual
def Tm.ok : Tm → Prop
  | .mk k a b s args => okHd k a b s args.length ∧ okArgs k args ∧ oks args
def oks : List Tm → Prop
  | [] => True
  | t :: r => t.ok ∧ oks r
end
theorem oks_iff : ∀ l : List Tm, oks l ↔ ∀ t ∈ l, t.ok
  | [] => by simp [oks]
  | t :: r => by rw [oks, oks_iff r]; simp
theorem ok_mk {k a b : Nat} {s : List UInt8} {args : List Tm} : (Tm.mk k a b s args).ok ↔ okHd k a b s args.length ∧ okArgs k args ∧ ∀ t ∈ args, t.ok := by rw [Tm.ok, oks_iff]

theorem hd_inj {k a b a' b' : Nat} {s s' : List UInt8} {m m' : Nat} (h : okHd k a b s m) (h' : okHd k a' b' s' m') {r r' : List UInt8}
    (he : hd k a b s m ++ r = hd k a' b' s' m' ++ r') : a = a' ∧ b = b' ∧ s = s' ∧ m = m' ∧ r = r' := by
  unfold okHd at h h'
  rcases h with h | h | h | h | h | h | h | h | h | h <;> obtain ⟨rfl, h⟩ := h
  · simp only [reduceCtorEq, false_and, or_false, false_or, true_and, Nat.reduceEqDiff] at h'
    obtain ⟨rfl, rfl, rfl, h5⟩ := h
    obtain ⟨rfl, rfl, rfl, h6⟩ := h'
    simp only [hd, if_true, List.append_assoc] at he
    obtain ⟨e1, e2⟩ := app4 he
    have := u32_inj (by omega) (by omega) e1
    obtain ⟨e3, e4⟩ := List.append_inj e2 this
    exact ⟨rfl, rfl, e3, rfl, e4⟩
  · simp only [reduceCtorEq, false_and, or_false, false_or, true_and, Nat.reduceEqDiff] at h'
    obtain ⟨h2, h3, rfl, rfl⟩ := h
    obtain ⟨h4, h5, rfl, rfl⟩ := h'
    simp only [hd, if_true, List.append_assoc, Nat.reduceEqDiff, if_false] at he
    obtain ⟨e1, e2⟩ := app4 he
    obtain ⟨e3, e4⟩ := app4 e2
    exact ⟨u32_inj (by omega) (by omega) e1, u32_inj (by omega) (by omega) e3, rfl, rfl, e4⟩
  · simp only [reduceCtorEq, false_and, or_false, false_or, true_and, Nat.reduceEqDiff] at h'
    obtain ⟨h2, rfl, rfl, rfl⟩ := h
    obtain ⟨h4, rfl, rfl, rfl⟩ := h'
    simp only [hd, if_true, List.append_assoc, Nat.reduceEqDiff, if_false] at he
    obtain ⟨e1, e2⟩ := app4 he
    exact ⟨u32_inj (by omega) (by omega) e1, rfl, rfl, rfl, e2⟩
  · simp only [reduceCtorEq, false_and, or_false, false_or, true_and, Nat.reduceEqDiff] at h'
    obtain ⟨rfl, rfl, rfl, rfl⟩ := h
    obtain ⟨rfl, rfl, rfl, rfl⟩ := h'
    simp only [hd, Nat.reduceEqDiff, if_false, List.nil_append] at he
    exact ⟨rfl, rfl, rfl, rfl, he⟩
  · simp only [reduceCtorEq, false_and, or_false, false_or, true_and, Nat.reduceEqDiff] at h'
    obtain ⟨rfl, rfl, h3, h4, h5⟩ := h
    obtain ⟨rfl, rfl, h6, h7, h8⟩ := h'
    simp only [hd, if_true, List.append_assoc, Nat.reduceEqDiff, if_false] at he
    obtain ⟨e1, e2⟩ := app4 he
    have := u32_inj (by omega) (by omega) e1
    obtain ⟨e3, e4⟩ := List.append_inj e2 this
    obtain ⟨e5, e6⟩ := app4 e4
    exact ⟨rfl, rfl, e3, u32_inj (by omega) (by omega) e5, e6⟩
  · simp only [reduceCtorEq, false_and, or_false, false_or, true_and, Nat.reduceEqDiff] at h'
    obtain ⟨rfl, rfl, h3, h4, rfl⟩ := h
    obtain ⟨rfl, rfl, h6, h7, rfl⟩ := h'
    simp only [hd, if_true, List.append_assoc, Nat.reduceEqDiff, if_false] at he
    obtain ⟨e1, e2⟩ := app4 he
    have := u32_inj (by omega) (by omega) e1
    obtain ⟨e3, e4⟩ := List.append_inj e2 this
    exact ⟨rfl, rfl, e3, rfl, e4⟩
  · simp only [reduceCtorEq, false_and, or_false, false_or, true_and, Nat.reduceEqDiff] at h'
    obtain ⟨rfl, rfl, rfl, rfl⟩ := h
    obtain ⟨rfl, rfl, rfl, rfl⟩ := h'
    simp only [hd, Nat.reduceEqDiff, if_false, List.nil_append] at he
    exact ⟨rfl, rfl, rfl, rfl, he⟩
  · simp only [reduceCtorEq, false_and, or_false, false_or, true_and, Nat.reduceEqDiff] at h'
    obtain ⟨rfl, h2, rfl, rfl⟩ := h
    obtain ⟨rfl, h4, rfl, rfl⟩ := h'
    simp only [hd, Nat.reduceEqDiff, if_false, if_true, List.cons_append, List.nil_append, List.cons.injEq] at he
    exact ⟨rfl, ofNat_inj h2 h4 he.1, rfl, rfl, he.2⟩
  · simp only [reduceCtorEq, false_and, or_false, false_or, true_and, Nat.reduceEqDiff] at h'
    obtain ⟨rfl, h2, rfl, rfl⟩ := h
    obtain ⟨rfl, h4, rfl, rfl⟩ := h'
    simp only [hd, Nat.reduceEqDiff, if_false, if_true] at he
    obtain ⟨e1, e2⟩ := app4 he
    exact ⟨rfl, u32_inj (by omega) (by omega) e1, rfl, rfl, e2⟩
  · simp only [reduceCtorEq, false_and, or_false, false_or, true_and, Nat.reduceEqDiff] at h'
    obtain ⟨rfl, rfl, rfl, h4⟩ := h
    obtain ⟨rfl, rfl, rfl, h8⟩ := h'
    simp only [hd, Nat.reduceEqDiff, if_false, if_true] at he
    obtain ⟨e1, e2⟩ := app4 he
    exact ⟨rfl, rfl, rfl, u32_inj (by omega) (by omega) e1, e2⟩
theorem okHd_kind {k a b : Nat} {s : List UInt8} {m : Nat} (h : okHd k a b s m) : 1 ≤ k ∧ k ≤ 10 := by unfold okHd at h; omega

mutual
theorem enc_inj : ∀ (t t' : Tm), t.ok → t'.ok → ∀ (r r' : List UInt8), t.enc ++ r = t'.enc ++ r' → t = t' ∧ r = r'
  | .mk k a b s args, .mk k' a' b' s' args', h, h', r, r', he => by
    rw [ok_mk] at h h'
    rw [enc_mk, enc_mk, List.cons_append, List.cons_append, List.cons.injEq] at he
    have hk := okHd_kind h.1
    have hk' := okHd_kind h'.1
    obtain ⟨e0, he⟩ := he
    have e0 := ofNat_inj (by omega) (by omega) e0
    obtain rfl : k = k' := by omega
    rw [List.append_assoc, List.append_assoc] at he
    obtain ⟨rfl, rfl, rfl, e4, e5⟩ := hd_inj h.1 h'.1 he
    obtain ⟨rfl, e6⟩ := encs_inj args args' e4 h.2.2 h'.2.2 r r' e5
    exact ⟨rfl, e6⟩
theorem encs_inj : ∀ (l l' : List Tm), l.length = l'.length → (∀ t ∈ l, t.ok) → (∀ t ∈ l', t.ok) → ∀ (r r' : List UInt8), encs l ++ r = encs l' ++ r' → l = l' ∧ r = r'
  | [], [], _, _, _, r, r', he => by simpa [encs] using he
  | [], _ :: _, h, _, _, _, _, _ => by simp at h
  | _ :: _, [], h, _, _, _, _, _ => by simp at h
  | t :: l, t' :: l', h, h1, h2, r, r', he => by
    rw [encs, encs, List.append_assoc, List.append_assoc] at he
    obtain ⟨e1, e⟩ := enc_inj t t' (h1 t (by simp)) (h2 t' (by simp)) _ _ he
    obtain ⟨e2, e⟩ := encs_inj l l' (by simpa using h) (fun x hx => h1 x (by simp [hx])) (fun x hx => h2 x (by simp [hx])) r r' e
    exact ⟨by rw [e1, e2], e⟩
end
theorem enc_eq {t t' : Tm} (h : t.ok) (h' : t'.ok) : t.enc = t'.enc ↔ t = t' :=
  ⟨fun e => (enc_inj t t' h h' [] [] (by simpa using e)).1, fun e => by rw [e]⟩
theorem enc_ne {t : Tm} : t.enc ≠ [] := by cases t; rw [enc_mk]; simp

/-- How many bytes of a term are its own. -/
def own (k : Nat) (n : Nat) : Nat := if k = 2 then 9 else if k = 1 ∨ k = 3 ∨ k = 6 ∨ k = 9 ∨ k = 10 then 5 + n else if k = 5 then 9 + n else if k = 8 then 2 else 1
def Tm.len (t : Tm) : Nat := t.enc.length
def lens (l : List Tm) : Nat := (l.map Tm.len).sum
theorem lens_encs : ∀ l : List Tm, (encs l).length = lens l
  | [] => by simp [encs, lens]
  | t :: r => by rw [encs, List.length_append, lens_encs r]; simp [lens, Tm.len]
theorem len_mk {k a b : Nat} {s : List UInt8} {args : List Tm} (h : okHd k a b s args.length) : (Tm.mk k a b s args).len = own k s.length + lens args := by
  unfold Tm.len
  rw [enc_mk, List.length_cons, List.length_append, lens_encs]
  unfold okHd at h
  rcases h with h | h | h | h | h | h | h | h | h | h <;> obtain ⟨rfl, h⟩ := h <;> simp [hd, own, u32_len] <;> (try (obtain ⟨_, _, h, _⟩ := h; try subst h)) <;> (try simp) <;> (try omega)
end Go.Proofs.YtbeanjaenmpoeaaDoor
