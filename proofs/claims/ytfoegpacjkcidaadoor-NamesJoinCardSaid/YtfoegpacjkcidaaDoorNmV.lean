/- Names: what stands between commas (plain laws on lists of bytes). -/
import Derived.Lib.SplitLaws
import Derived.Lib.Join
namespace Go.Proofs.YtfoegpacjkcidaaDoor
open Go

def cutL : List UInt8 → List (List UInt8)
  | [] => [[]]
  | b :: r => if b = 44 then [] :: cutL r else match cutL r with
    | p :: ps => (b :: p) :: ps
    | [] => [[b]]
theorem cutL_ne : ∀ l, cutL l ≠ []
  | [] => by simp [cutL]
  | b :: r => by
    unfold cutL
    split
    · simp
    · split <;> simp
theorem cutL_eq (r : List UInt8) : cutL (44 :: r) = [] :: cutL r := by rw [cutL, if_pos rfl]
theorem cutL_cons {b : UInt8} {r p : List UInt8} {ps : List (List UInt8)} (hb : b ≠ 44) (h : cutL r = p :: ps) : cutL (b :: r) = (b :: p) :: ps := by rw [cutL, if_neg hb, h]
theorem cutL_app : ∀ (a r : List UInt8), (∀ b ∈ a, b ≠ 44) → cutL (a ++ 44 :: r) = a :: cutL r
  | [], r, _ => cutL_eq r
  | b :: a, r, h => cutL_cons (h b (by simp)) (cutL_app a r (fun x hx => h x (by simp [hx])))
theorem cutL_none : ∀ (a : List UInt8), (∀ b ∈ a, b ≠ 44) → cutL a = [a]
  | [], _ => rfl
  | b :: a, h => cutL_cons (h b (by simp)) (cutL_none a (fun x hx => h x (by simp [hx])))
theorem join_two (p q : List UInt8) (r : List (List UInt8)) : Lib.join (p :: q :: r) [44] = p ++ 44 :: Lib.join (q :: r) [44] := by
  rw [Lib.join_cons, Lib.join_cons]
  simp [Lib.joinTail]
theorem join_cutL : ∀ l, Lib.join (cutL l) [44] = l
  | [] => rfl
  | b :: r => by
    have ih := join_cutL r
    cases hq : cutL r with
    | nil => exact absurd hq (cutL_ne r)
    | cons p ps =>
      rw [hq] at ih
      by_cases hb : b = 44
      · subst hb
        rw [cutL_eq, hq, join_two, ih]; rfl
      · rw [cutL_cons hb hq, Lib.join_cons]
        rw [Lib.join_cons] at ih
        rw [List.cons_append, ih]
theorem cutL_join : ∀ (ps : List (List UInt8)), ps ≠ [] → (∀ p ∈ ps, ∀ b ∈ p, b ≠ 44) → cutL (Lib.join ps [44]) = ps
  | [], h, _ => absurd rfl h
  | [p], _, h => by rw [Lib.join_one]; exact cutL_none p (h p (by simp))
  | p :: q :: r, _, h => by
    rw [join_two, cutL_app p _ (h p (by simp)), cutL_join (q :: r) (by simp) (fun x hx => h x (by simp [hx]))]
theorem splitK_eq (k : Nat) (r : List UInt8) : Lib.splitK [44] 0 (k + 1) (44 :: r) = [] :: Lib.splitK [44] 0 k r := by
  have hi : Lib.index (44 :: r) [44] = 0 := by rw [Lib.index]; simp [List.isPrefixOf]
  rw [Lib.splitK, hi]
  simp
theorem splitK_cons {b : UInt8} (hb : b ≠ 44) : ∀ (k : Nat) (r : List UInt8), ∃ p ps, Lib.splitK [44] 0 k r = p :: ps ∧ Lib.splitK [44] 0 k (b :: r) = (b :: p) :: ps
  | 0, r => ⟨r, [], rfl, rfl⟩
  | k + 1, r => by
    have hp : ([44] : List UInt8).isPrefixOf (b :: r) = false := by simp [List.isPrefixOf, Ne.symm hb]
    have hi : Lib.index (b :: r) [44] = if Lib.index r [44] == -1 then -1 else Lib.index r [44] + 1 := by rw [Lib.index, hp]; simp
    by_cases hm : Lib.index r [44] = -1
    · refine ⟨r, [], ?_, ?_⟩
      · rw [Lib.splitK, if_pos (by rw [hm]; rfl)]
      · rw [Lib.splitK, hi, hm]; rfl
    · have hge := Lib.index_ge r [44]
      obtain ⟨j, hj⟩ : ∃ j : Nat, Lib.index r [44] = j := ⟨(Lib.index r [44]).toNat, by omega⟩
      have hn : ¬ (Lib.index r [44] == -1) = true := fun e => hm (beq_iff_eq.1 e)
      have hi2 : Lib.index (b :: r) [44] = ((j + 1 : Nat) : Int) := by rw [hi, if_neg hn, hj]; omega
      have hn2 : ¬ (Lib.index (b :: r) [44] == -1) = true := fun e => by have := beq_iff_eq.1 e; omega
      refine ⟨r.take j, Lib.splitK [44] 0 k (r.drop (j + 1)), ?_, ?_⟩
      · rw [Lib.splitK, if_neg hn, hj]; simp
      · rw [Lib.splitK, if_neg hn2, hi2]; simp
theorem splitK_cutL : ∀ l, Lib.splitK [44] 0 (Lib.count l [44]) l = cutL l
  | [] => by
    have : Lib.count [] [44] = 0 := by rw [Lib.count_one]; rfl
    rw [this]; rfl
  | b :: r => by
    have ih := splitK_cutL r
    by_cases hb : b = 44
    · subst hb
      rw [Lib.count_cons_eq, Nat.add_comm, splitK_eq, ih, cutL_eq]
    · rw [Lib.count_cons_ne b 44 r hb]
      obtain ⟨p, ps, h1, h2⟩ := splitK_cons hb (Lib.count r [44]) r
      rw [h2]
      rw [h1] at ih
      rw [cutL_cons hb ih.symm]
theorem cutL_len : ∀ l : List UInt8, (cutL l).length = l.count 44 + 1
  | [] => rfl
  | b :: r => by
    have ih := cutL_len r
    by_cases hb : b = 44
    · subst hb
      rw [cutL_eq, List.length_cons, ih, List.count_cons_self]
    · cases hq : cutL r with
      | nil => exact absurd hq (cutL_ne r)
      | cons p ps =>
        rw [hq] at ih
        rw [cutL_cons hb hq, List.count_cons_of_ne (by simpa using hb)]
        simpa using ih
def bsOf (l : List UInt8) : ByteArray := ⟨l.toArray⟩
theorem bsOf_list (l : List UInt8) : (bsOf l).data.toList = l := rfl
theorem bsOf_data (s : ByteArray) : bsOf s.data.toList = s := by cases s; rfl
/-- What stands between the commas of a text. -/
def partsN (s : ByteArray) : List ByteArray := (cutL s.data.toList).map bsOf
theorem splitB_parts (s : ByteArray) : Lib.splitB ⟨#[44]⟩ 0 (Lib.countB s ⟨#[44]⟩) s = partsN s := by
  have h := Lib.splitB_data ⟨#[44]⟩ 0 (Lib.countB s ⟨#[44]⟩) s
  have hc : Lib.countB s ⟨#[44]⟩ = Lib.count s.data.toList [44] := rfl
  rw [hc] at h ⊢
  have h2 := h.trans (splitK_cutL s.data.toList)
  unfold partsN
  rw [← h2, List.map_map]
  conv => lhs; rw [← List.map_id (Lib.splitB ⟨#[44]⟩ 0 (Lib.count s.data.toList [44]) s)]
  refine List.map_congr_left fun x _ => ?_
  exact (bsOf_data x).symm
theorem parts_len (s : ByteArray) : (partsN s).length = Lib.countB s ⟨#[44]⟩ + 1 := by
  unfold partsN
  rw [List.length_map, cutL_len]
  have hc : Lib.countB s ⟨#[44]⟩ = Lib.count s.data.toList [44] := rfl
  rw [hc, Lib.count_one]
end Go.Proofs.YtfoegpacjkcidaaDoor
