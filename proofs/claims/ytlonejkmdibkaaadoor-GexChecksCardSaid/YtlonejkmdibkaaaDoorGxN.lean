/- Gex: names and groups, in plain Lean. -/
import Derived.Test.YtlonejkmdibkaaaDoorWrA
import Derived.Test.YtlonejkmdibkaaaDoorGxA
namespace Go.Proofs.YtlonejkmdibkaaaDoor
open Go.RowKit

/-! ### Names -/
def nameS (p g : ByteArray) : ByteArray := ⟨#[103, 101, 120, 58]⟩ ++ u32S p.size ++ p ++ g
theorem nameS_size (p g : ByteArray) : (nameS p g).size = p.size + g.size + 8 := by
  unfold nameS
  simp only [ByteArray.size_append, u32S_size]
  have : (⟨#[103, 101, 120, 58]⟩ : ByteArray).size = 4 := rfl
  omega
theorem nameS_list (p g : ByteArray) : (nameS p g).toList = [103, 101, 120, 58] ++ ((u32S p.size).toList ++ (p.toList ++ g.toList)) := by
  unfold nameS
  simp only [bsl_app, List.append_assoc]
  rw [bsl]
theorem nameS_inj {p g q h : ByteArray} (hp : p.size < 4294967296) (hq : q.size < 4294967296) (e : nameS p g = nameS q h) : p = q ∧ g = h := by
  have e1 := congrArg ByteArray.toList e
  rw [nameS_list, nameS_list] at e1
  have e2 := List.append_cancel_left e1
  obtain ⟨e3, e4⟩ := List.append_inj e2 (by rw [bsl_len, bsl_len, u32S_size, u32S_size])
  have e5 := congrArg numb e3
  rw [numb_u32S _ (by omega) (by omega), numb_u32S _ (by omega) (by omega)] at e5
  obtain ⟨e6, e7⟩ := List.append_inj e4 (by rw [bsl_len, bsl_len]; omega)
  exact ⟨bs_ext e6, bs_ext e7⟩
def curve1S : ByteArray := ⟨#[99, 117, 114, 118, 101, 50, 53, 53, 49, 57]⟩
def curve2S : ByteArray := ⟨#[110, 105, 115, 116, 112, 50, 53, 54]⟩
theorem nameS_ne1 (p g : ByteArray) : nameS p g ≠ curve1S := by
  intro e
  have h1 := congrArg (fun s => s.toList.head?) e
  simp only [nameS_list] at h1
  rw [bsl curve1S] at h1
  have h2 : some (103 : UInt8) = some 99 := h1
  exact absurd h2 (by decide)
theorem nameS_ne2 (p g : ByteArray) : nameS p g ≠ curve2S := by
  intro e
  have h1 := congrArg (fun s => s.toList.head?) e
  simp only [nameS_list] at h1
  rw [bsl curve2S] at h1
  have h2 : some (103 : UInt8) = some 110 := h1
  exact absurd h2 (by decide)

/-! ### The table's groups: of 1024 k bits -/
def gxAt (k i : Nat) : Nat :=
  let n := (7 * i + 16 * k) % 251
  let n := if i = 0 then n + 128 else n
  if i + 1 = 128 * k ∧ n % 2 = 0 then n + 1 else n
def gxL (k : Nat) : List Int := (List.range (128 * k)).map (fun i => (gxAt k i : Int))
def gxP (k : Nat) : ByteArray := strOfNums (gxL k)
theorem gxL_len (k : Nat) : (gxL k).length = 128 * k := by unfold gxL; rw [List.length_map, List.length_range]
theorem gxP_size (k : Nat) : (gxP k).size = 128 * k := by unfold gxP; rw [strOfNums_size, gxL_len]
theorem gxAt_lt (k i : Nat) (hk : k ≤ 4) : gxAt k i < 256 := by
  unfold gxAt
  by_cases h : i = 0
  · subst h
    simp only [if_true]
    have : (7 * 0 + 16 * k) % 251 = 16 * k := by omega
    rw [this]
    split <;> omega
  · simp only [if_neg h]
    have : (7 * i + 16 * k) % 251 < 251 := Nat.mod_lt _ (by omega)
    split <;> omega
theorem gxAt_zero (k : Nat) (h1 : 1 ≤ k) (hk : k ≤ 4) : gxAt k 0 = 16 * k + 128 := by
  unfold gxAt
  have : (7 * 0 + 16 * k) % 251 = 16 * k := by omega
  simp only [if_true, this]
  rw [if_neg (by omega)]
theorem gxP_first (k : Nat) (h1 : 1 ≤ k) (hk : k ≤ 4) (h : 0 < (gxP k).size) : ((gxP k)[0].toNat : Int) = 16 * k + 128 := by
  have e : (gxP k).toList[0]? = some ((gxP k)[0]) := bsl_get h
  generalize (gxP k)[0] = z at e ⊢
  rw [bsl] at e
  unfold gxP at e
  rw [strOfNums_data] at e
  unfold gxL at e
  rw [List.map_map, List.getElem?_map, List.getElem?_range (by omega)] at e
  simp only [Option.map_some, Option.some.injEq, Function.comp, Int.toNat_natCast] at e
  rw [gxAt_zero k h1 hk] at e
  have : z.toNat = 16 * k + 128 := by
    rw [← e, UInt8.toNat_ofNat']
    omega
  omega
theorem gxP_plain (k : Nat) (h1 : 1 ≤ k) (hk : k ≤ 4) : plainS (gxP k) = gxP k := by
  have hp : 0 < (gxP k).size := by rw [gxP_size]; omega
  have h0 := gxP_first k h1 hk hp
  refine (plainS_of rfl (stays hp ?_)).symm
  rw [beq_eq_false_iff_ne]
  intro e
  rw [e] at h0
  have : ((0 : UInt8).toNat : Int) = 0 := rfl
  omega
theorem gxP_bits (k : Nat) (h1 : 1 ≤ k) (hk : k ≤ 4) : bitsI (gxP k) = 1024 * k := by
  have hp : 0 < (gxP k).size := by rw [gxP_size]; omega
  unfold bitsI
  rw [gxP_plain k h1 hk, bitsT_pos hp, gxP_first k h1 hk hp, lz_big (by omega), gxP_size]
  omega

/-! ### What is picked -/
def rightB (least like most : Int) : Bool := decide (1024 ≤ least) && decide (least ≤ like) && decide (like ≤ most) && decide (most ≤ 8192)
/-- The first of the table's sizes that lies between, from below and from above; 0: none. -/
def upK (lo hi : Int) : Nat := if lo ≤ 1024 ∧ 1024 ≤ hi then 1 else if lo ≤ 2048 ∧ 2048 ≤ hi then 2 else if lo ≤ 3072 ∧ 3072 ≤ hi then 3 else if lo ≤ 4096 ∧ 4096 ≤ hi then 4 else 0
def dnK (lo hi : Int) : Nat := if lo ≤ 4096 ∧ 4096 ≤ hi then 4 else if lo ≤ 3072 ∧ 3072 ≤ hi then 3 else if lo ≤ 2048 ∧ 2048 ≤ hi then 2 else if lo ≤ 1024 ∧ 1024 ≤ hi then 1 else 0
def pickK (least like most : Int) : Nat := if rightB least like most then (if upK like most = 0 then dnK least most else upK like most) else 0
theorem upK_le (lo hi : Int) : upK lo hi ≤ 4 := by unfold upK; (repeat' split) <;> omega
theorem dnK_le (lo hi : Int) : dnK lo hi ≤ 4 := by unfold dnK; (repeat' split) <;> omega
theorem pickK_le (a b c : Int) : pickK a b c ≤ 4 := by
  unfold pickK
  have := upK_le b c
  have := dnK_le a c
  repeat' split
  all_goals omega
end Go.Proofs.YtlonejkmdibkaaaDoor
