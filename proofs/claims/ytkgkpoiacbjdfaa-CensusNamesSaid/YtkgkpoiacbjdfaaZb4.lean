/- Texts joined: what each shows stands ahead of its theorems. -/
import Derived.Test.YtkgkpoiacbjdfaaZb2
import Derived.Test.YtkgkpoiacbjdfaaZb3
import Derived.Test.YtkgkpoiacbjdfaaZb0
namespace Go.Proofs.Ytkgkpoiacbjdfaa
section
open Go Go.RowKit Go.Maps

def rowsW (ss : List Value) : List (List Value) := List.zipWith (fun (p : Int × ByteArray) (s : Value) => [.int .i64 p.1, .string p.2, s]) words ss
/-- What Table answers. -/
def TabR (w : World) (r : Ending) (w' : World) : Prop := ∃ (A : Option Addr) (ss : List Value), r = .returned (.slice A 19 19) ∧ ss.length = 19 ∧ (∀ s ∈ ss, s.oneCell' = true) ∧ Rws w' 3 A 19 (rowsW ss) ∧ Below w.heap.size w w'
theorem Below.al {a w : World} (h : Below a.heap.size a w) (o : Obj) : Below a.heap.size a (w.alloc o) := h.alloc h.size o
theorem rowsW_len {ss : List Value} (h : ss.length = 19) : (rowsW ss).length = 19 := by
  unfold rowsW
  rw [List.length_zipWith, h]
  rfl
theorem rowsW_get {ss : List Value} {j : Nat} {z : List Value} (h : (rowsW ss)[j]? = some z) : ∃ p s, words[j]? = some p ∧ z = [.int .i64 p.1, .string p.2, s] := by
  unfold rowsW at h
  rw [List.getElem?_zipWith] at h
  cases h1 : words[j]? with
  | none => rw [h1] at h; cases h
  | some p =>
    cases h2 : ss[j]? with
    | none => rw [h1, h2] at h; cases h
    | some s => rw [h1, h2] at h; exact ⟨p, s, rfl, (Option.some.inj h).symm⟩
theorem tab_end (w w1 : World) (hB : Below w.heap.size w w1) (n : Nat) (hn : w1.heap.size = n) (ss : List Value) (h19 : ss.length = 19) (h1 : (ss.all fun s => s.oneCell') = true) (C : Array Value) (hC : C = (rowsW ss).flatten.toArray) (T : TypeId) :
    TabR w (.returned (.slice (some ⟨n, 0, none⟩) 19 19)) (w1.alloc (.cells C T)) := by
  subst hn
  subst hC
  have hR := Rws.block (w := w1.alloc (.cells (rowsW ss).flatten.toArray T)) (zs := rowsW ss) (k := 3) (fun z hz => by
    obtain ⟨j, hj⟩ := List.getElem?_of_mem hz
    obtain ⟨p, s, _, rfl⟩ := rowsW_get hj
    rfl) (heap_new w1 _) (by simp)
  rw [rowsW_len h19] at hR
  exact ⟨_, ss, rfl, h19, fun s hs => List.all_eq_true.1 h1 s hs, hR, Below.al hB _⟩
set_option maxRecDepth 100000 in
set_option maxHeartbeats 4000000 in
theorem table06_any (w : World) : Calls Try.prog 59 #[] w (TabR w) := by
  go_enter Try.func59, Try.ntmps59
  go_wp2_with fail
  go_ret
  refine tab_end w _ ?_ _ ?_ [.slice (some ⟨w.heap.size, 0, none⟩) 1 1, .slice (some ⟨w.heap.size + 1, 0, none⟩) 1 1, .slice (some ⟨w.heap.size + 1 + 1, 0, none⟩) 1 1, .slice (some ⟨w.heap.size + 1 + 1 + 1, 0, none⟩) 1 1, .slice (some ⟨w.heap.size + 1 + 1 + 1 + 1, 0, none⟩) 1 1, .slice (some ⟨w.heap.size + 1 + 1 + 1 + 1 + 1, 0, none⟩) 1 1, .slice (some ⟨w.heap.size + 1 + 1 + 1 + 1 + 1 + 1, 0, none⟩) 1 1, .slice (some ⟨w.heap.size + 1 + 1 + 1 + 1 + 1 + 1 + 1, 0, none⟩) 1 1, .slice (some ⟨w.heap.size + 1 + 1 + 1 + 1 + 1 + 1 + 1 + 1, 0, none⟩) 1 1, .slice (some ⟨w.heap.size + 1 + 1 + 1 + 1 + 1 + 1 + 1 + 1 + 1, 0, none⟩) 1 1, .slice (some ⟨w.heap.size + 1 + 1 + 1 + 1 + 1 + 1 + 1 + 1 + 1 + 1, 0, none⟩) 2 2, .slice (some ⟨w.heap.size + 1 + 1 + 1 + 1 + 1 + 1 + 1 + 1 + 1 + 1 + 1, 0, none⟩) 1 1, .slice (some ⟨w.heap.size + 1 + 1 + 1 + 1 + 1 + 1 + 1 + 1 + 1 + 1 + 1 + 1, 0, none⟩) 1 1, .slice (some ⟨w.heap.size + 1 + 1 + 1 + 1 + 1 + 1 + 1 + 1 + 1 + 1 + 1 + 1 + 1, 0, none⟩) 1 1, .slice (some ⟨w.heap.size + 1 + 1 + 1 + 1 + 1 + 1 + 1 + 1 + 1 + 1 + 1 + 1 + 1 + 1, 0, none⟩) 3 3, .slice (some ⟨w.heap.size + 1 + 1 + 1 + 1 + 1 + 1 + 1 + 1 + 1 + 1 + 1 + 1 + 1 + 1 + 1, 0, none⟩) 1 1, .slice (some ⟨w.heap.size + 1 + 1 + 1 + 1 + 1 + 1 + 1 + 1 + 1 + 1 + 1 + 1 + 1 + 1 + 1 + 1, 0, none⟩) 1 1, .slice (some ⟨w.heap.size + 1 + 1 + 1 + 1 + 1 + 1 + 1 + 1 + 1 + 1 + 1 + 1 + 1 + 1 + 1 + 1 + 1, 0, none⟩) 1 1, .slice (some ⟨w.heap.size + 1 + 1 + 1 + 1 + 1 + 1 + 1 + 1 + 1 + 1 + 1 + 1 + 1 + 1 + 1 + 1 + 1 + 1, 0, none⟩) 1 1] rfl rfl _ (by kernel_rfl) _
  · repeat refine Below.al ?_ _
    exact Below.refl _ _
  · simp only [World.size_alloc]
theorem words_in (num : Int) : ∀ {l : List (Int × ByteArray)} {j : Nat} {p : Int × ByteArray}, l[j]? = some p → p.1 = num → (∀ i q, i < j → l[i]? = some q → q.1 ≠ num) → wordIn num l = p.2
  | [], _, _, h, _, _ => by simp at h
  | q :: l, 0, p, h, hp, _ => by
    obtain rfl := Option.some.inj h
    rw [wordIn, if_pos hp]
  | q :: l, j + 1, p, h, hp, hn => by
    rw [wordIn, if_neg (hn 0 q (by omega) rfl)]
    exact words_in num h hp fun i r hi hr => hn (i + 1) r (by omega) hr
theorem words_out (num : Int) : ∀ {l : List (Int × ByteArray)}, (∀ (i : Nat) q, l[i]? = some q → q.1 ≠ num) → wordIn num l = ⟨#[]⟩
  | [], _ => rfl
  | q :: l, h => by
    rw [wordIn, if_neg (h 0 q rfl)]
    exact words_out num fun i r hr => h (i + 1) r hr
def OfR (num : Int) (w : World) (r : Ending) (w' : World) : Prop := ∃ (a s : Value), r = .returned (.agg #[a, .string (wordT num), s]) ∧ Below w.heap.size w w'
set_option maxRecDepth 100000 in
set_option maxHeartbeats 4000000 in
theorem of06_any (num : Int) (w : World) : Calls Try.prog 41 #[.int .i64 num] w (OfR num w) := by
  have hr0 := heap_new w (.cells #[.int .i64 0, .string ⟨#[]⟩, .slice none 0 0] 75)
  have hb0 := below_new2 w (.cells #[.int .i64 0, .string ⟨#[]⟩, .slice none 0 0] 75)
  have cT := Lib.hid (table06_any)
  unfold OfR
  go_enter Try.func41, Try.ntmps41
  go_upto_region 2 with (first
    | (go_at_call 59; (with_reducible refine (cT.out _).mono ?_); rintro r w1 ⟨A, ss, rfl, h19, h1c, hR, hb1⟩))
  have hrp := (hb1.block w.heap.size (Array.getElem?_eq_some_iff.1 hr0).1).trans hr0
  have hBw := Lib.hid (hb0.trans (hb1.mono hb0.size))
  have hRh := Lib.hid hR
  have h1h := Lib.hid h1c
  obtain ⟨p0, hp0⟩ : ∃ p0, w.heap.size = p0 := ⟨_, rfl⟩
  rw [hp0] at hrp ⊢
  replace hp0 := Lib.hid hp0
  have hn0 : Hid (∀ (i : Nat) q, i < 0 → words[i]? = some q → q.1 ≠ num) := Lib.hid fun i q h => absurd h (Nat.not_lt_zero _)
  clear hr0 hb0 cT hb1 hR h1c h19
  go_wp2_with fail
  go_loopw [4] (fun iv wr => ∃ k : Nat, k ≤ 19 ∧ iv = .int .i64 k ∧ Hid (∀ (i : Nat) q, i < k → words[i]? = some q → q.1 ≠ num) ∧ wr = w1) (fun iv _ => 19 - (intOf iv).toNat)
  case atStart => exact ⟨0, Nat.zero_le _, rfl, hn0, rfl⟩
  case round =>
    clear hn0
    obtain ⟨k, hk, rfl, hn, hw⟩ := hrel
    subst hw
    by_cases hlt : k < 19
    · have hlt' : (k : Int) < 19 := by omega
      obtain ⟨b, off, z, rfl, hb, hz, _, hr⟩ := hRh.out.row hlt
      obtain ⟨p, s, hp, rfl⟩ := rowsW_get hz
      have c0 := hr 0 _ rfl
      rw [Nat.add_zero] at c0
      by_cases e : p.1 = num
      · have e1 : (p.1 == num) = true := by rw [e]; simp
        have hwd := Lib.hid (words_in num hp e hn.out)
        have hs1 : s.oneCell' = true := h1h.out s (by
          unfold rowsW at hz
          obtain ⟨i2, hi2⟩ : ∃ i2, ss[k]? = some i2 := by
            rw [List.getElem?_zipWith] at hz
            cases h2 : ss[k]? with
            | none => rw [h2, hp] at hz; cases hz
            | some y => exact ⟨y, rfl⟩
          rw [List.getElem?_zipWith, hp, hi2] at hz
          have hz := Option.some.inj hz
          simp at hz
          rw [← hz]
          exact List.mem_of_getElem? hi2)
        have hall : (#[.int .i64 p.1, .string p.2, s] : Array Value).all (·.oneCell') = true := by
          rw [show (#[.int .i64 p.1, .string p.2, s] : Array Value) = [Value.int .i64 p.1, .string p.2, s].toArray from rfl, List.all_toArray, List.all_cons, List.all_cons, List.all_cons, hs1]
          rfl
        have hrow := Lib.hid (show wr.rangeAt b (off + k * 3) [.int .i64 p.1, .string p.2, s] from hr)
        clear hz hp hr hb e hn hs1
        go_wp2_with (first
          | (refine wpList_load_at 75 (.tmp 21) rfl rfl b (off + k * 3) rfl [.int .i64 p.1, .string p.2, s] _ hrow.out Try.underlying75 rfl (by kernel_rfl) ?_)
          | (refine wpList_store_at 75 _ _ rfl rfl p0 #[.int .i64 p.1, .string p.2, s] rfl rfl 75 #[.int .i64 0, .string ⟨#[]⟩, .slice none 0 0] hrp (by kernel_rfl) rfl hall ?_))
        refine bodyPost_ret (results_cell_row rfl _ _ p0 75 #[.int .i64 p.1, .string p.2, s] (0, 0) _ rfl (heap_setRow_same wr _ _ _ _ _ hrp) Try.underlying75 rfl (by kernel_rfl)) rfl ?_
        exact ⟨_, _, by rw [show wordT num = p.2 from hwd.out], below_setRow hBw.out (by rw [hp0.out]; exact Nat.le_refl _) _⟩
      · have e1 : (p.1 == num) = false := by rw [beq_eq_false_iff_ne]; exact e
        have hn2 : Hid (∀ (i : Nat) q, i < k + 1 → words[i]? = some q → q.1 ≠ num) := Lib.hid fun i q hi hq => by
          by_cases h : i < k
          · exact hn.out i q h hq
          · obtain rfl : i = k := by omega
            rw [hp] at hq
            rw [← Option.some.inj hq]
            exact e
        clear hz hp hr hb e
        go_wp2_with fail
        go_roundw
        case rel => exact ⟨k + 1, by omega, by go_num, hn2, trivial⟩
        case measure => simp [intOf]; omega
    · have hkn : k = 19 := by omega
      subst hkn
      have hwd := Lib.hid (show wordT num = ⟨#[]⟩ from words_out num fun i q hq => hn.out i q (by
        have := (List.getElem?_eq_some_iff.1 hq).1
        exact this) hq)
      clear hn
      go_wp2_with (refine wpList_store_at 75 _ _ rfl rfl p0 #[.int .i64 0, .string ⟨#[]⟩, .slice none 0 0] rfl rfl 75 #[.int .i64 0, .string ⟨#[]⟩, .slice none 0 0] hrp (by kernel_rfl) rfl (by kernel_rfl) ?_)
      refine bodyPost_ret (results_cell_row rfl _ _ p0 75 #[.int .i64 0, .string ⟨#[]⟩, .slice none 0 0] (0, 0) _ rfl (heap_setRow_same wr _ _ _ _ _ hrp) Try.underlying75 rfl (by kernel_rfl)) rfl ?_
      exact ⟨_, _, by rw [hwd.out], below_setRow hBw.out (by rw [hp0.out]; exact Nat.le_refl _) _⟩
end

section
open Go Go.RowKit Go.Maps

def numsT (ss : List ByteArray) : List ByteArray := ss.map numT
theorem numsT_snoc (ss : List ByteArray) (x : ByteArray) : numsT (ss ++ [x]) = numsT ss ++ [numT x] := by
  unfold numsT
  rw [List.map_append]
  rfl
theorem numsT_len (ss : List ByteArray) : (numsT ss).length = ss.length := List.length_map ..
set_option maxRecDepth 100000 in
set_option maxHeartbeats 4000000 in
theorem nums_any (ss : List ByteArray) (A : Option Addr) (n c : Nat) (w : World) (hn : n ≤ 1000) (H : Strs w A n ss) (hs : ∀ x ∈ ss, x.size ≤ 9223372036854775807) :
    Calls Try.prog 26 #[.slice A n c] w (TalR (numsT ss) w) := by
  obtain ⟨i0, hi, hz0, hz1, hz2⟩ := info_parts str_info
  have hml := Lib.hid H.len
  have hHh := Lib.hid H
  have hsh := Lib.hid hs
  have hO0 : Hid (OwnS w w.heap.size (.slice none 0 0) (numsT (ss.take 0))) := Lib.hid (OwnR.nil_ _ _ _ _)
  have hB0 := Lib.hid (Below.refl w.heap.size w)
  clear H hs
  go_enter Try.func26, Try.ntmps26
  go_wp2_with fail
  go_loopw [3, 8] (fun vv iv wr => ∃ (k : Nat) (v : Value), k ≤ n ∧ vv = v ∧ iv = .int .i64 k ∧ Hid (OwnS wr w.heap.size v (numsT (ss.take k))) ∧ Hid (Below w.heap.size w wr)) (fun _ iv _ => n - (intOf iv).toNat)
  case atStart => exact ⟨0, _, Nat.zero_le _, rfl, rfl, hO0, hB0⟩
  case round =>
    clear hO0 hB0
    obtain ⟨k, v, hk, rfl, rfl, hO, hB⟩ := hrel
    obtain ⟨Av, cv, ev, hSv⟩ := hO.out.strs
    have hxl : (numsT (ss.take k)).length ≤ 1000 := by rw [numsT_len, List.length_take]; omega
    subst ev
    by_cases hlt : k < n
    · have hlt' : (k : Int) < (n : Int) := by omega
      obtain ⟨b1, o1, x, rfl, hlt0, hx, hc⟩ := (hHh.out.keep hB.out).at_ hlt
      have hxs := hsh.out x (List.mem_of_getElem? hx)
      have hsn : numsT (ss.take (k + 1)) = numsT (ss.take k) ++ [numT x] := by rw [take_succ_of hx]; exact numsT_snoc _ _
      have cN := Lib.hid (fun W => num_any x W hxs)
      obtain ⟨y, hy⟩ : ∃ y, numT x = y := ⟨_, rfl⟩
      rw [hy] at cN hsn
      have hnx := Lib.hid (show ∀ (v2 : Value) (w7 : World), OwnR w7 w.heap.size 1 9 v2 ((numsT (ss.take k)).map sv ++ [[.string y]]) → OwnS w7 w.heap.size v2 (numsT (ss.take (k + 1))) from fun v2 w7 h => by
        unfold OwnS
        rw [hsn, List.map_append]
        exact h)
      obtain ⟨nx, hnxl⟩ : ∃ nx, (numsT (ss.take k)).length = nx := ⟨_, rfl⟩
      have hOq : OwnR wr w.heap.size 1 9 (.slice Av nx cv) ((numsT (ss.take k)).map sv) := by rw [← hnxl]; exact hO.out
      rw [hnxl] at hxl ⊢
      replace hnxl := Lib.hid hnxl
      have hbn := below_new2 wr (.cells #[.string y] 9)
      have hOn := Lib.hid (hOq.keep hbn)
      have hBn := Lib.hid (hB.out.trans (hbn.mono hB.out.size))
      have hrw := Lib.hid (rangeAt_list (heap_new wr (.cells [Value.string y].toArray 9)))
      clear hsn hx hy hbn hOq hO hSv hlt0 hxs
      go_wp2_with (first
        | (go_at_call 40; (with_reducible refine (cN.out _).mono ?_); rintro r w2 ⟨rfl, rfl⟩)
        | (at_builtin; refine wpList_append_one rfl _ _ 50 rfl 9 i0 _ 1 16 Try.underlying50 hi hz0 hz1 hz2 rfl (by decide) w hBn.out _ ((numsT (ss.take k)).map sv) rfl hOn.out wr.heap.size 1 [.string y] rfl hrw.out rfl (by simp; rfl) (by rw [List.length_map, hnxl.out]; unfold maxLen; omega) (by rw [List.length_map, hnxl.out]; omega) ?_
           intro v2 w7 hO2 hB2 hg2
           replace hO2 := Lib.hid (hnx.out v2 w7 hO2)
           replace hB2 := Lib.hid hB2
           clear hg2))
      go_roundw
      case rel => exact ⟨k + 1, v2, by omega, rfl, by go_num, hO2, hB2⟩
      case measure => simp [intOf]; omega
    · have hkn : k = n := by omega
      subst hkn
      rw [List.take_of_length_le (by rw [hml.out]; exact Nat.le_refl _)] at hO hxl hSv ⊢
      have cT := Lib.hid (tallies_any (numsT ss) Av (numsT ss).length cv wr hxl hSv (fun x hx => by obtain ⟨y, _, rfl⟩ := List.mem_map.1 (show x ∈ ss.map numT from hx); have := numT_size y; unfold maxLen; omega))
      clear hO hSv
      go_wp2_with (go_at_call 38; (with_reducible refine cT.out.mono ?_); rintro r w8 ⟨us, A8, c8, rfl, hT8, hR8, hb8⟩)
      go_ret
      exact ⟨us, A8, c8, rfl, hT8, hR8, hB.out.trans (hb8.mono hB.out.size)⟩
set_option maxRecDepth 100000 in
set_option maxHeartbeats 4000000 in
theorem rnums_any (ss : List ByteArray) (A : Option Addr) (n c : Nat) (w : World) (hn : n ≤ 1000) (H : Strs w A n ss) (hs : ∀ x ∈ ss, x.size ≤ 9223372036854775807) :
    Calls Try.prog 27 #[.slice A n c] w (TalR (numsT ss) w) := by
  obtain ⟨i0, hi, hz0, hz1, hz2⟩ := info_parts str_info
  have hml := Lib.hid H.len
  have hHh := Lib.hid H
  have hsh := Lib.hid hs
  have hO0 : Hid (OwnS w w.heap.size (.slice none 0 0) (numsT (ss.take 0))) := Lib.hid (OwnR.nil_ _ _ _ _)
  have hB0 := Lib.hid (Below.refl w.heap.size w)
  clear H hs
  go_enter Try.func27, Try.ntmps27
  go_wp2_with fail
  go_loopw [3, 4] (fun vv iv wr => ∃ (k : Nat) (v : Value), k ≤ n ∧ vv = v ∧ iv = .int .i64 k ∧ Hid (OwnS wr w.heap.size v (numsT (ss.take k))) ∧ Hid (Below w.heap.size w wr)) (fun _ iv _ => n - (intOf iv).toNat)
  case atStart => exact ⟨0, _, Nat.zero_le _, rfl, rfl, hO0, hB0⟩
  case round =>
    clear hO0 hB0
    obtain ⟨k, v, hk, rfl, rfl, hO, hB⟩ := hrel
    obtain ⟨Av, cv, ev, hSv⟩ := hO.out.strs
    have hxl : (numsT (ss.take k)).length ≤ 1000 := by rw [numsT_len, List.length_take]; omega
    subst ev
    by_cases hlt : k < n
    · have hlt' : (k : Int) < (n : Int) := by omega
      obtain ⟨b1, o1, x, rfl, hlt0, hx, hc⟩ := (hHh.out.keep hB.out).at_ hlt
      have hxs := hsh.out x (List.mem_of_getElem? hx)
      have hsn : numsT (ss.take (k + 1)) = numsT (ss.take k) ++ [numT x] := by rw [take_succ_of hx]; exact numsT_snoc _ _
      obtain ⟨y, hy⟩ : ∃ y, numT x = y := ⟨_, rfl⟩
      rw [hy] at hsn
      have hnx := Lib.hid (show ∀ (v2 : Value) (w7 : World), OwnR w7 w.heap.size 1 9 v2 ((numsT (ss.take k)).map sv ++ [[.string y]]) → OwnS w7 w.heap.size v2 (numsT (ss.take (k + 1))) from fun v2 w7 h => by
        unfold OwnS
        rw [hsn, List.map_append]
        exact h)
      obtain ⟨nx, hnxl⟩ : ∃ nx, (numsT (ss.take k)).length = nx := ⟨_, rfl⟩
      have hOq : OwnR wr w.heap.size 1 9 (.slice Av nx cv) ((numsT (ss.take k)).map sv) := by rw [← hnxl]; exact hO.out
      rw [hnxl] at hxl ⊢
      replace hnxl := Lib.hid hnxl
      clear hsn hx hO hSv hlt0
      unfold numT at hy
      cases hl : x.data.toList with
      | nil =>
        rw [hl] at hy
        have hz : x.size = 0 := by
          have : x.data.toList.length = x.size := by rw [Array.length_toList]; rfl
          rw [hl] at this
          exact this.symm
        have hzz : ¬ (0 : Int) < (x.size : Int) := by omega
        have hyE : emptyW = y := hy
        subst hyE
        unfold emptyW at *
        have hbn := below_new2 wr (.cells #[.string ⟨#[101, 109, 112, 116, 121]⟩] 9)
        have hOn := Lib.hid (hOq.keep hbn)
        have hBn := Lib.hid (hB.out.trans (hbn.mono hB.out.size))
        have hrw := Lib.hid (rangeAt_list (heap_new wr (.cells [Value.string ⟨#[101, 109, 112, 116, 121]⟩].toArray 9)))
        clear hbn
        clear hl hy hz hOq hxs
        go_wp2_with (at_builtin; refine wpList_append_one rfl _ _ 50 rfl 9 i0 _ 1 16 Try.underlying50 hi hz0 hz1 hz2 rfl (by decide) w hBn.out _ ((numsT (ss.take k)).map sv) rfl hOn.out wr.heap.size 1 [.string ⟨#[101, 109, 112, 116, 121]⟩] rfl hrw.out rfl (by simp; rfl) (by rw [List.length_map, hnxl.out]; unfold maxLen; omega) (by rw [List.length_map, hnxl.out]; omega) ?_
                     intro v2 w7 hO2 hB2 hg2
                     replace hO2 := Lib.hid (hnx.out v2 w7 hO2)
                     replace hB2 := Lib.hid hB2
                     clear hg2)
        go_roundw
        case rel => exact ⟨k + 1, v2, by omega, rfl, by go_num, hO2, hB2⟩
        case measure => simp [intOf]; omega
      | cons ch l =>
        rw [hl] at hy
        have hz : 0 < x.size := by
          have : x.data.toList.length = x.size := by rw [Array.length_toList]; rfl
          rw [hl] at this
          simp at this
          omega
        have hzz : (0 : Int) < (x.size : Int) := by omega
        have hcc : ch = x[0]'hz := by
          have h0 : x.data[0]? = some ch := by rw [← Array.getElem?_toList, hl]; rfl
          obtain ⟨_, e⟩ := Array.getElem?_eq_some_iff.1 h0
          exact e.symm
        subst hcc
        have h256 : ((x[0]'hz).toNat : Int) ≤ 255 := by have := (x[0]'hz).toNat_lt; omega
        have h00 : (0 : Int) ≤ ((x[0]'hz).toNat : Int) := Int.natCast_nonneg _
        have cO := Lib.hid (of06_any ((x[0]'hz).toNat : Int) wr)
        unfold OfR at cO
        dsimp only at hy
        clear hl
        generalize wordT ((x[0]'hz).toNat : Int) = z at *
        have hyh := Lib.hid hy
        have hOqh := Lib.hid hOq
        clear hy hOq
        cases he : z.toList.isEmpty with
        | true =>
          have hyU : unknownW = y := by have := hyh.out; rw [he, if_pos rfl] at this; exact this
          subst hyU
          unfold unknownW at *
          go_upto_region 10 with (go_at_call 41; (with_reducible refine cO.out.mono ?_); rintro r w5 ⟨a5, s5, rfl, hb5⟩
                                  have hfd : ∀ W, (Instr.field 75 (.agg #[a5, .string z, s5]) 1).run Try.prog W = .ok (.string z) W := fun W => by kernel_rfl
                                  have hOq5 := hOqh.out.keep hb5
                                  have hB5 := hB.out.trans (hb5.mono hB.out.size))
          have hbn := below_new2 w5 (.cells #[.string ⟨#[117, 110, 107, 110, 111, 119, 110]⟩] 9)
          have hOn := Lib.hid (hOq5.keep hbn)
          have hBn := Lib.hid (hB5.trans (hbn.mono hB5.size))
          have hrw := Lib.hid (rangeAt_list (heap_new w5 (.cells [Value.string ⟨#[117, 110, 107, 110, 111, 119, 110]⟩].toArray 9)))
          clear hbn
          clear hOq5 hB5 hb5
          go_wp2_with (at_builtin; refine wpList_append_one rfl _ _ 50 rfl 9 i0 _ 1 16 Try.underlying50 hi hz0 hz1 hz2 rfl (by decide) w hBn.out _ ((numsT (ss.take k)).map sv) rfl hOn.out w5.heap.size 1 [.string ⟨#[117, 110, 107, 110, 111, 119, 110]⟩] rfl hrw.out rfl (by simp; rfl) (by rw [List.length_map, hnxl.out]; unfold maxLen; omega) (by rw [List.length_map, hnxl.out]; omega) ?_
                       intro v2 w7 hO2 hB2 hg2
                       replace hO2 := Lib.hid (hnx.out v2 w7 hO2)
                       replace hB2 := Lib.hid hB2
                       clear hg2)
          go_roundw
          case rel => exact ⟨k + 1, v2, by omega, rfl, by go_num, hO2, hB2⟩
          case measure => simp [intOf]; omega
        | false =>
          have hyZ : z = y := by have := hyh.out; rw [he, if_neg (by decide)] at this; exact this
          subst hyZ
          go_upto_region 10 with (go_at_call 41; (with_reducible refine cO.out.mono ?_); rintro r w5 ⟨a5, s5, rfl, hb5⟩
                                  have hfd : ∀ W, (Instr.field 75 (.agg #[a5, .string z, s5]) 1).run Try.prog W = .ok (.string z) W := fun W => by kernel_rfl
                                  have hOq5 := hOqh.out.keep hb5
                                  have hB5 := hB.out.trans (hb5.mono hB.out.size))
          have hbn := below_new2 w5 (.cells #[.string z] 9)
          have hOn := Lib.hid (hOq5.keep hbn)
          have hBn := Lib.hid (hB5.trans (hbn.mono hB5.size))
          have hrw := Lib.hid (rangeAt_list (heap_new w5 (.cells [Value.string z].toArray 9)))
          clear hbn
          clear hOq5 hB5 hb5
          go_wp2_with (at_builtin; refine wpList_append_one rfl _ _ 50 rfl 9 i0 _ 1 16 Try.underlying50 hi hz0 hz1 hz2 rfl (by decide) w hBn.out _ ((numsT (ss.take k)).map sv) rfl hOn.out w5.heap.size 1 [.string z] rfl hrw.out rfl (by simp; rfl) (by rw [List.length_map, hnxl.out]; unfold maxLen; omega) (by rw [List.length_map, hnxl.out]; omega) ?_
                       intro v2 w7 hO2 hB2 hg2
                       replace hO2 := Lib.hid (hnx.out v2 w7 hO2)
                       replace hB2 := Lib.hid hB2
                       clear hg2)
          go_roundw
          case rel => exact ⟨k + 1, v2, by omega, rfl, by go_num, hO2, hB2⟩
          case measure => simp [intOf]; omega
    · have hkn : k = n := by omega
      subst hkn
      rw [List.take_of_length_le (by rw [hml.out]; exact Nat.le_refl _)] at hO hxl hSv ⊢
      have cT := Lib.hid (rtallies_any (numsT ss) Av (numsT ss).length cv wr hxl hSv)
      clear hO hSv
      go_wp2_with (go_at_call 39; (with_reducible refine cT.out.mono ?_); rintro r w8 ⟨us, A8, c8, rfl, hT8, hR8, hb8⟩)
      go_ret
      exact ⟨us, A8, c8, rfl, hT8, hR8, hB.out.trans (hb8.mono hB.out.size)⟩
end

section
open Go Go.RowKit Go.Maps

set_option maxRecDepth 100000 in
set_option maxHeartbeats 4000000 in
theorem rnames_any (es : List Ev) (A : Option Addr) (n c : Nat) (list : Int) (w : World) (hn : n ≤ 1000) (H : Evs w A n es) (hst : ∀ e ∈ es, ∀ (i : Nat) (s : ByteArray), e.cells[i]? = some (.string s) → s.size ≤ 140737488351232) :
    Calls Try.prog 25 #[.slice A n c, .int .i64 list] w (TalR (xsN es list) w) := by
  obtain ⟨i0, hi, hz0, hz1, hz2⟩ := info_parts str_info
  have hml := Lib.hid H.len
  have hsz := Lib.hid (xsN_size es list hst)
  have hHh := Lib.hid H
  have hO0 : Hid (OwnS w w.heap.size (.slice none 0 0) (xsN (es.take 0) list)) := Lib.hid (OwnR.nil_ _ _ _ _)
  have hB0 := Lib.hid (Below.refl w.heap.size w)
  clear H hst
  go_enter Try.func25, Try.ntmps25
  go_wp2_with fail
  go_loopw [5, 6] (fun vv iv wr => ∃ (k : Nat) (v : Value), k ≤ n ∧ vv = v ∧ iv = .int .i64 k ∧ Hid (OwnS wr w.heap.size v (xsN (es.take k) list)) ∧ Hid (Below w.heap.size w wr)) (fun _ iv _ => n - (intOf iv).toNat)
  case atStart => exact ⟨0, _, Nat.zero_le _, rfl, rfl, hO0, hB0⟩
  case round =>
    clear hO0 hB0
    obtain ⟨k, v, hk, rfl, rfl, hO, hB⟩ := hrel
    have hxl := xsN_len (es.take k) list
    rw [List.length_take] at hxl
    have hxl2 : (xsN (es.take k) list).length ≤ 1000 := by have := hml.out; omega
    obtain ⟨Av, cv, ev, hSv⟩ := hO.out.strs
    subst ev
    by_cases hlt : k < n
    · have hlt' : (k : Int) < (n : Int) := by omega
      obtain ⟨b, off, e, rfl, hb, he, hr⟩ := (hHh.out.keep hB.out).row hlt
      have htk : es.take (k + 1) = es.take k ++ [e] := take_succ_of he
      have hsn := xsN_snoc (es.take k) list e
      rw [← htk] at hsn
      have hr' := Ev.fldN hr
      have hg1 := heap_new wr (.cells chcZ 29)
      have c0 : e.chc[0]? = some (.string e.dn.c0) := rfl
      have c1 : e.chc[1]? = some (.string e.dn.c1) := rfl
      have c2 : e.chc[2]? = some (.string e.dn.c2) := rfl
      have c3 : e.chc[3]? = some (.string e.dn.c3) := rfl
      have c4 : e.chc[4]? = some (.string e.dn.c4) := rfl
      have c5 : e.chc[5]? = some (.string e.dn.c5) := rfl
      have c6 : e.chc[6]? = some (.string e.dn.c6) := rfl
      have c7 : e.chc[7]? = some (.string e.dn.c7) := rfl
      have hb1 := below_new2 wr (.cells e.chc.toArray 29)
      have hb2 := below_new2 (wr.alloc (.cells e.chc.toArray 29)) (.cells #[.string e.dn.c0, .string e.dn.c1, .string e.dn.c2, .string e.dn.c3, .string e.dn.c4, .string e.dn.c5, .string e.dn.c6, .string e.dn.c7] 9)
      have hb12 := hb1.trans (hb2.mono hb1.size)
      have hr2 := heap_new (wr.alloc (.cells e.chc.toArray 29)) (.cells #[.string e.dn.c0, .string e.dn.c1, .string e.dn.c2, .string e.dn.c3, .string e.dn.c4, .string e.dn.c5, .string e.dn.c6, .string e.dn.c7] 9)
      have hs : (wr.alloc (.cells e.chc.toArray 29)).heap.size = wr.heap.size + 1 := by simp
      have hS5 := Lib.hid (show Strs ((wr.alloc (.cells e.chc.toArray 29)).alloc (.cells #[.string e.dn.c0, .string e.dn.c1, .string e.dn.c2, .string e.dn.c3, .string e.dn.c4, .string e.dn.c5, .string e.dn.c6, .string e.dn.c7] 9)) (some ⟨(wr.alloc (.cells e.chc.toArray 29)).heap.size, 0, none⟩) 8 (nmL e) from Strs.block (ss := [e.dn.c0, e.dn.c1, e.dn.c2, e.dn.c3, e.dn.c4, e.dn.c5, e.dn.c6, e.dn.c7]) hr2 (by simp))
      have hO5 := Lib.hid (OwnS.keep hO.out hb12)
      have hB5 := Lib.hid (hB.out.trans (hb12.mono hB.out.size))
      have f0 := Lib.hid (rangeAt_keep hr hb12 hb 0 _ rfl)
      rw [hs] at hS5
      rw [Nat.add_zero] at f0
      clear he htk hb hO hSv hxl hr hb1 hb2 hb12 hr2 hs
      go_upto_region 6 with (first
        | (refine wpList_load_at 29 (.tmp 19) rfl rfl b (off + k * 34 + 8 + 4) rfl e.chc _ hr' Try.underlying29 rfl (by kernel_rfl) ?_)
        | (refine wpList_alloc_row 29 rfl rfl chcZ ?_ ?_; exact chc_zero)
        | (refine wpList_store_at 29 (.tmp 7) (.tmp 20) rfl rfl wr.heap.size e.chc.toArray rfl rfl 29 chcZ hg1 (by kernel_rfl) rfl e.chc_one ?_
           rw [setRow_new]))
      clear hr' hg1
      go_upto_region 7 with fail
      clear c0 c1 c2 c3 c4 c5 c6 c7
      generalize ((wr.alloc (.cells e.chc.toArray 29)).alloc (.cells #[.string e.dn.c0, .string e.dn.c1, .string e.dn.c2, .string e.dn.c3, .string e.dn.c4, .string e.dn.c5, .string e.dn.c6, .string e.dn.c7] 9)) = w5 at *
      replace f0 := f0.out
      by_cases h2 : e.kind = 2
      · have b2 : (e.kind == 2) = true := by rw [h2]; rfl
        by_cases h0 : 0 ≤ list
        · by_cases h8 : list < 8
          · obtain ⟨m, rfl⟩ : ∃ m : Nat, list = m := ⟨list.toNat, by omega⟩
            have hm8 : m < 8 := by omega
            obtain ⟨b', o', y, eL, _, hy, hcy⟩ := hS5.out.at_ hm8
            injection eL with eL
            injection eL with e1 e2 _
            subst e1
            subst e2
            rw [Nat.zero_add] at hcy
            have hP : nmP (m : Int) e = true := by unfold nmP; rw [h2, decide_eq_true h0, decide_eq_true h8]; rfl
            have hg : (nmL e).getD (m : Int).toNat ⟨#[]⟩ = y := by rw [Int.toNat_natCast, List.getD_eq_getElem?_getD, hy]; rfl
            rw [if_pos hP, hg] at hsn
            have hnx := Lib.hid (show ∀ (v2 : Value) (w7 : World), OwnR w7 w.heap.size 1 9 v2 ((xsN (es.take k) (m : Int)).map sv ++ [[.string y]]) → OwnS w7 w.heap.size v2 (xsN (es.take (k + 1)) (m : Int)) from fun v2 w7 h => by
              unfold OwnS
              rw [hsn, List.map_append]
              exact h)
            have hbn := below_new2 w5 (.cells #[.string y] 9)
            obtain ⟨nx, hnxl⟩ : ∃ nx, (xsN (es.take k) (m : Int)).length = nx := ⟨_, rfl⟩
            have hOn := Lib.hid (show OwnR (w5.alloc (.cells #[.string y] 9)) w.heap.size 1 9 (.slice Av nx cv) ((xsN (es.take k) (m : Int)).map sv) from by rw [← hnxl]; exact OwnS.keep hO5.out hbn)
            rw [hnxl] at hxl2 ⊢
            replace hnxl := Lib.hid hnxl
            have hBn := Lib.hid (hB5.out.trans (hbn.mono hB5.out.size))
            have hrw := Lib.hid (rangeAt_list (heap_new w5 (.cells [Value.string y].toArray 9)))
            clear hP hg hsn hy hbn
            go_wp2_with (at_builtin; refine wpList_append_one rfl _ _ 50 rfl 9 i0 _ 1 16 Try.underlying50 hi hz0 hz1 hz2 rfl (by decide) w hBn.out _ ((xsN (es.take k) (m : Int)).map sv) rfl hOn.out w5.heap.size 1 [.string y] rfl hrw.out rfl (by simp; rfl) (by rw [List.length_map, hnxl.out]; unfold maxLen; omega) (by rw [List.length_map, hnxl.out]; omega) ?_
                         intro v2 w7 hO2 hB2 hg2
                         replace hO2 := Lib.hid (hnx.out v2 w7 hO2)
                         replace hB2 := Lib.hid hB2
                         clear hg2)
            go_roundw
            case rel => exact ⟨k + 1, v2, by omega, rfl, by go_num, hO2, hB2⟩
            case measure => simp [intOf]; omega
          · have hP : nmP list e = false := by unfold nmP; simp [h8]
            rw [if_neg (by rw [hP]; decide), List.append_nil] at hsn
            have hO6 := Lib.hid (show OwnS w5 w.heap.size (.slice Av (xsN (es.take k) list).length cv) (xsN (es.take (k + 1)) list) by rw [hsn]; exact hO5.out)
            clear hP hsn
            go_wp2_with fail
            go_roundw
            case rel => exact ⟨k + 1, _, by omega, rfl, by go_num, hO6, hB5⟩
            case measure => simp [intOf]; omega
        · have hP : nmP list e = false := by unfold nmP; simp [h0]
          rw [if_neg (by rw [hP]; decide), List.append_nil] at hsn
          have hO6 := Lib.hid (show OwnS w5 w.heap.size (.slice Av (xsN (es.take k) list).length cv) (xsN (es.take (k + 1)) list) by rw [hsn]; exact hO5.out)
          clear hP hsn
          go_wp2_with fail
          go_roundw
          case rel => exact ⟨k + 1, _, by omega, rfl, by go_num, hO6, hB5⟩
          case measure => simp [intOf]; omega
      · have b2 : (e.kind == 2) = false := by rw [beq_eq_false_iff_ne]; exact h2
        have hP : nmP list e = false := by unfold nmP; simp [h2]
        rw [if_neg (by rw [hP]; decide), List.append_nil] at hsn
        have hO6 := Lib.hid (show OwnS w5 w.heap.size (.slice Av (xsN (es.take k) list).length cv) (xsN (es.take (k + 1)) list) by rw [hsn]; exact hO5.out)
        clear hP hsn
        go_wp2_with fail
        go_roundw
        case rel => exact ⟨k + 1, _, by omega, rfl, by go_num, hO6, hB5⟩
        case measure => simp [intOf]; omega
    · have hkn : k = n := by omega
      subst hkn
      rw [List.take_of_length_le (by rw [hml.out]; exact Nat.le_refl _)] at hO hxl2 hSv ⊢
      have cT := Lib.hid (rtallies_any (xsN es list) Av (xsN es list).length cv wr hxl2 hSv)
      clear hO hSv
      go_wp2_with (go_at_call 39; (with_reducible refine cT.out.mono ?_); rintro r w8 ⟨us, A8, c8, rfl, hT8, hR8, hb8⟩)
      go_ret
      exact ⟨us, A8, c8, rfl, hT8, hR8, hB.out.trans (hb8.mono hB.out.size)⟩
end

section
open Go.RowKit

theorem cast_sum (f : Nat → Nat) : ∀ (I : List Nat), (I.map fun i => (f i : Int)).sum = ((I.map f).sum : Nat)
  | [] => rfl
  | i :: I => by simp only [List.map_cons, List.sum_cons, cast_sum f I]; omega
theorem Good.of_cens (es : List Ev) (h : es.length ≤ 1000000) : Good (cens es es.length) where
  len := cens_len _ _
  pos := fun x hx => by
    unfold cens at hx
    obtain ⟨i, _, rfl⟩ := List.mem_map.1 hx
    have := cnt_le es es.length i
    omega
  reasons := by
    rw [cens_getD es _ (by decide), ← cnt_reasons es, ← cast_sum]
    rfl
  methods := by
    rw [cens_getD es _ (by decide), ← cnt_methods es, ← cast_sum]
    rfl
  later := by
    rw [cens_getD es _ (by decide), cens_getD es _ (by decide), cens_getD es _ (by decide)]
    have := cnt_later es
    omega
  safe := by
    rw [cens_getD es _ (by decide), cens_getD es _ (by decide), cens_getD es _ (by decide)]
    have := cnt_safe es
    omega

def evA : Ev := { Ev.zero with kind := 6, num := 2 }
theorem builtA : Try.prog.built 37 [(0, .int .i64 6), (2, .int .i64 2)] = some evA.cells.toArray := by kernel_rfl
theorem fillA : Instr.fill (fun j => some (j * 34, 34)) ((Array.range (1 * 34)).map ((Value.agg Ev.zero.cells.toArray).cells[· % (Value.agg Ev.zero.cells.toArray).cells.size]!)) [(0, .agg evA.cells.toArray)] = some ([evA].flatMap Ev.cells).toArray := by kernel_rfl
def cenA : List Int := [0, 0, 0, 0, 0, 0, 1, 0, 0, 0, 1, 0, 0, 0, 0, 0, 0, 0, 0, 0, 0, 0, 0, 0, 0, 0, 0, 0, 0, 0]
theorem cenA_eq : cens [evA] 1 = cenA := by decide +kernel
theorem cenA_good : Good cenA := by
  have := Good.of_cens [evA] (by decide)
  rwa [show [evA].length = 1 from rfl, cenA_eq] at this

set_option maxRecDepth 100000 in
set_option maxHeartbeats 1000000 in
theorem awake37_any (w : World) :
    Calls Try.prog 15 #[] w fun r w' => r = .returned (.bool true) ∧ Below w.heap.size w w' := by
  obtain ⟨i0, hi0, hz0, hz1, hz2⟩ := info_parts ev_info
  have hE := Lib.hid (Evs.block (es := [evA]) (heap_new w (.cells ([evA].flatMap Ev.cells).toArray 37)) (by simp))
  have hB := Lib.hid ((Below.refl w.heap.size w).alloc (Nat.le_refl _) (.cells ([evA].flatMap Ev.cells).toArray 37))
  go_enter Try.func15, Try.ntmps15
  go_wp2_with (first
      | (refine wpList_build_as 37 _ rfl rfl evA.cells.toArray ?_ ?_; exact builtA)
      | (refine wpList_buildSlice_as 22 37 1 _ rfl rfl i0 (.agg Ev.zero.cells.toArray) ([evA].flatMap Ev.cells).toArray Try.underlying22 hi0 hz0 (by rw [hz1]; decide) (by rw [hz1]; decide) (by rw [hz1]; exact fillA) ?_))
  refine (cenOf_any [evA] (some ⟨w.heap.size, 0, none⟩) 1 1 _ (by decide) hE.out).mono ?_
  rintro r w1 ⟨rfl, hb1⟩
  rw [cenA_eq]
  have hW1 := Lib.hid (hB.out.trans (hb1.mono hB.out.size))
  have hg1 := heap_new w1 (.cells cenZ 64)
  have hCB : CB (w1.alloc (.cells (ci cenA) 64)) w1.heap.size cenA := ⟨heap_new w1 _, rfl⟩
  have hl3 := rangeAt_list (cs := cenA.map (Value.int .i64)) hCB.1
  obtain ⟨c6, _⟩ := hCB.cell (i := 6) (by decide)
  obtain ⟨c10, _⟩ := hCB.cell (i := 10) (by decide)
  obtain ⟨c0, _⟩ := hCB.cell (i := 0) (by decide)
  rw [show cenA.getD 6 0 = 1 from rfl] at c6
  rw [show cenA.getD 10 0 = 1 from rfl] at c10
  rw [show cenA.getD 0 0 = 0 from rfl] at c0
  have hW2 := Lib.hid (hW1.out.alloc hW1.out.size (.cells (ci cenA) 64))
  have cC := Lib.hid (fun W => check_good cenA W cenA_good)
  clear hb1 hCB
  go_wp2_with (first
      | (refine wpList_alloc_row 64 rfl rfl cenZ cen_zero ?_)
      | (refine wpList_store_at 64 _ _ rfl rfl w1.heap.size (ci cenA) rfl rfl 64 cenZ hg1 (by kernel_rfl) rfl (ci_one _) ?_
         rw [setRow_new])
      | (refine wpList_load_at 64 _ rfl rfl w1.heap.size 0 rfl (cenA.map (Value.int .i64)) _ hl3 Try.underlying64 rfl (by kernel_rfl) ?_))
  refine (cC.out _).mono ?_
  rintro r w2 ⟨rfl, hb2⟩
  go_wp2_with fail
  go_ret
  exact ⟨rfl, hW2.out.trans (hb2.mono hW2.out.size)⟩
end

section
open Go Go.RowKit Go.Maps

theorem numsT_size {ss : List ByteArray} : ∀ x ∈ numsT ss, x.size ≤ maxLen := fun x hx => by
  obtain ⟨y, _, rfl⟩ := List.mem_map.1 (show x ∈ ss.map numT from hx)
  have := numT_size y
  unfold maxLen
  omega
theorem sub_len {α : Type} [DecidableEq α] : ∀ (l m : List α), l.Nodup → (∀ x ∈ l, x ∈ m) → l.length ≤ m.length
  | [], _, _, _ => Nat.zero_le _
  | a :: t, m, hn, hs => by
    have ha := hs a List.mem_cons_self
    obtain ⟨h1, h2⟩ := List.nodup_cons.1 hn
    have h3 := sub_len t (m.erase a) h2 fun x hx => (List.mem_erase_of_ne (fun e => h1 (by rw [← e]; exact hx))).2 (hs x (List.mem_cons_of_mem _ hx))
    rw [List.length_erase_of_mem ha] at h3
    have := List.length_pos_of_mem ha
    rw [List.length_cons]
    omega
theorem TalOf.len_le {xs : List ByteArray} {ts : List Tly} (h : TalOf xs ts) : ts.length ≤ xs.length := by
  have hd : (ts.map (·.1)).Nodup := by
    refine List.pairwise_map.2 ((sort_nodup h.sort).imp_of_mem fun {a b} ha hb hab e => hab ?_)
    have h1 := ((h.mem a).1 ha).2
    have h2 := ((h.mem b).1 hb).2
    exact Prod.ext e (by rw [h1, h2, e])
  have := sub_len _ xs hd fun x hx => by
    obtain ⟨p, hp, rfl⟩ := List.mem_map.1 hx
    exact ((h.mem p).1 hp).1
  rwa [List.length_map] at this
/-- Two tallies of the same names are the same. -/
theorem sameTal_any (xs : List ByteArray) (ts us : List Tly) (A B : Option Addr) (c d : Nat) (w : World) (hl : xs.length ≤ 1000) (hx : ∀ x ∈ xs, x.size ≤ maxLen) (ht : TalOf xs ts) (hu : TalOf xs us) (H : Rws w 2 A ts.length (ts.map encT)) (K : Rws w 2 B us.length (us.map encT)) :
    Calls Try.prog 23 #[.slice A ts.length c, .slice B us.length d] w fun r w' => r = .returned (.bool true) ∧ Below w.heap.size w w' := by
  have e := ht.uniq hu
  subst e
  exact sameT_any ts A B ts.length ts.length c d w (Nat.le_trans (ht.len_le) hl) rfl H K fun p hp => ⟨ht.bd hl p hp, hx _ ((ht.mem p).1 hp).1⟩
set_option maxRecDepth 100000 in
set_option maxHeartbeats 8000000 in
theorem law_censusNames (es : List Ev) (A : Option Addr) (n c : Nat) (list : Int) (ss : List ByteArray) (B : Option Addr) (m d : Nat) (w : World) (hn : n ≤ 9223372036854775807) (H : Evs w A n es) (hst : ∀ e ∈ es, ∀ (i : Nat) (s : ByteArray), e.cells[i]? = some (.string s) → s.size ≤ 140737488351232) (hm : m ≤ 9223372036854775807) (K : Strs w B m ss) (hs : ∀ x ∈ ss, x.size ≤ 9223372036854775807) :
    Calls Try.prog 5 #[.slice A n c, .int .i64 list, .slice B m d] w fun r w' => r = .returned (.bool true) ∧ Below w.heap.size w w' := by
  have aw := Lib.hid (fun W => (show Calls Try.prog 15 #[] W (fun r w' => r = .returned (.bool true) ∧ Below W.heap.size W w') from awake37_any W))
  have hel := Lib.hid H.len
  have hsl := Lib.hid K.len
  have cF := Lib.hid (few_any es A n c w hn H hst)
  have HH := Lib.hid H
  have KK := Lib.hid K
  have hsh := Lib.hid hs
  have hsth := Lib.hid hst
  clear hst hs H K
  go_enter Try.func5, Try.ntmps5
  go_wp2_with fail
  refine cF.out.mono ?_
  rintro r w0 ⟨f, hf, rfl, hb⟩
  have hW0 := Lib.hid hb
  clear hb cF
  cases f with
  | false =>
    go_wp2_with fail
    refine (aw.out w0).mono ?_
    rintro r w2 ⟨rfl, hb⟩
    go_wp2_with fail
    go_ret
    exact ⟨rfl, hW0.out.trans (hb.mono hW0.out.size)⟩
  | true =>
    have h60 := hf rfl
    clear hf
    by_cases hm60 : 60 < m
    · go_wp2_with fail
      refine (aw.out w0).mono ?_
      rintro r w2 ⟨rfl, hb⟩
      go_wp2_with fail
      go_ret
      exact ⟨rfl, hW0.out.trans (hb.mono hW0.out.size)⟩
    · have cN := Lib.hid (fun W (h : Below w.heap.size w W) => names_any es A n c list W (by omega) (HH.out.keep h) hsth.out)
      have cRN := Lib.hid (fun W (h : Below w.heap.size w W) => rnames_any es A n c list W (by omega) (HH.out.keep h) hsth.out)
      have cU := Lib.hid (fun W (h : Below w.heap.size w W) => nums_any ss B m d W (by omega) (KK.out.keep h) hsh.out)
      have cRU := Lib.hid (fun W (h : Below w.heap.size w W) => rnums_any ss B m d W (by omega) (KK.out.keep h) hsh.out)
      have hxl : Hid ((xsN es list).length ≤ 1000) := Lib.hid (Nat.le_trans (xsN_len es list) (by have := hel.out; omega))
      have hxs := Lib.hid (xsN_size es list hsth.out)
      have hul : Hid ((numsT ss).length ≤ 1000) := Lib.hid (by rw [numsT_len]; have := hsl.out; omega)
      go_wp2_with (first
        | ((go_at_call 15); (with_reducible refine (aw.out _).mono ?_); rintro r w2 ⟨rfl, hb2⟩
           have hW2 := Lib.hid (hW0.out.trans (hb2.mono hW0.out.size))
           clear hb2)
        | ((go_at_call 24); (with_reducible refine (cN.out _ hW2.out).mono ?_); rintro r w3 ⟨ts, A3, c3, rfl, ht, hr3, hb3⟩
           have hW3 := Lib.hid (hW2.out.trans (hb3.mono hW2.out.size))
           replace ht := Lib.hid ht
           replace hr3 := Lib.hid hr3
           clear hb3)
        | ((go_at_call 25); (with_reducible refine (cRN.out _ hW3.out).mono ?_); rintro r w4 ⟨us, A4, c4, rfl, hu, hr4, hb4⟩
           have hW4 := Lib.hid (hW3.out.trans (hb4.mono hW3.out.size))
           have cS := Lib.hid (sameTal_any _ _ _ _ _ c3 c4 _ hxl.out hxs.out ht.out hu (hr3.out.keep hb4) hr4)
           clear hb4 hr4 hu hr3 ht)
        | ((go_at_call 23); (with_reducible refine (cS.out).mono ?_); rintro r w5 ⟨rfl, hb5⟩
           have hW5 := Lib.hid (hW4.out.trans (hb5.mono hW4.out.size))
           clear hb5 cS)
        | ((go_at_call 26); (with_reducible refine (cU.out _ hW5.out).mono ?_); rintro r w6 ⟨vs, A6, c6, rfl, ht, hr6, hb6⟩
           have hW6 := Lib.hid (hW5.out.trans (hb6.mono hW5.out.size))
           replace ht := Lib.hid ht
           replace hr6 := Lib.hid hr6
           clear hb6)
        | ((go_at_call 27); (with_reducible refine (cRU.out _ hW6.out).mono ?_); rintro r w7 ⟨xs, A7, c7, rfl, hu, hr7, hb7⟩
           have hW7 := Lib.hid (hW6.out.trans (hb7.mono hW6.out.size))
           have cS := Lib.hid (sameTal_any _ _ _ _ _ c6 c7 _ hul.out numsT_size ht.out hu (hr6.out.keep hb7) hr7)
           clear hb7 hr7 hu hr6 ht)
        | ((go_at_call 23); (with_reducible refine (cS.out).mono ?_); rintro r w8 ⟨rfl, hb8⟩
           have hW8 := Lib.hid (hW7.out.trans (hb8.mono hW7.out.size))
           clear hb8 cS))
      go_ret
      exact ⟨rfl, hW8.out⟩
end

section
open Go.RowKit Go.ChangeShapes Go.WideShapes Go.Deep

def evDs : List TypeDesc := [.int .i64, .int .i64, .int .i64, .int .i64, .string, .string, .string, .int .i64,
  .string, .string, .string, .string, .string, .string, .string, .string, .string, .string, .string, .string, .int .i64, .int .u32, .int .u32, .int .u32,
  .string, .string, .int .i64, .int .i64, .int .i64, .int .i64, .int .i64, .int .i64, .int .i64, .int .i64]
theorem ev_flat : flatDesc Try.prog 6 37 = some evDs := by kernel_rfl

theorem ev_of_cells {cs : List Value} (h : allOk evDs cs) : ∃ e : Ev, cs = e.cells := by
  obtain ⟨hl, hc⟩ := h
  match cs, hl with
  | c0 :: c1 :: c2 :: c3 :: c4 :: c5 :: c6 :: c7 :: c8 :: c9 :: c10 :: c11 :: c12 :: c13 :: c14 :: c15 :: c16 :: c17 :: c18 :: c19 :: c20 :: c21 :: c22 :: c23 :: c24 :: c25 :: c26 :: c27 :: c28 :: c29 :: c30 :: c31 :: c32 :: c33 :: [], _ =>
    obtain ⟨x0, rfl, _⟩ := hc 0 _ _ rfl rfl
    obtain ⟨x1, rfl, _⟩ := hc 1 _ _ rfl rfl
    obtain ⟨x2, rfl, _⟩ := hc 2 _ _ rfl rfl
    obtain ⟨x3, rfl, _⟩ := hc 3 _ _ rfl rfl
    obtain ⟨x4, rfl, _⟩ := hc 4 _ _ rfl rfl
    obtain ⟨x5, rfl, _⟩ := hc 5 _ _ rfl rfl
    obtain ⟨x6, rfl, _⟩ := hc 6 _ _ rfl rfl
    obtain ⟨x7, rfl, _⟩ := hc 7 _ _ rfl rfl
    obtain ⟨x8, rfl, _⟩ := hc 8 _ _ rfl rfl
    obtain ⟨x9, rfl, _⟩ := hc 9 _ _ rfl rfl
    obtain ⟨x10, rfl, _⟩ := hc 10 _ _ rfl rfl
    obtain ⟨x11, rfl, _⟩ := hc 11 _ _ rfl rfl
    obtain ⟨x12, rfl, _⟩ := hc 12 _ _ rfl rfl
    obtain ⟨x13, rfl, _⟩ := hc 13 _ _ rfl rfl
    obtain ⟨x14, rfl, _⟩ := hc 14 _ _ rfl rfl
    obtain ⟨x15, rfl, _⟩ := hc 15 _ _ rfl rfl
    obtain ⟨x16, rfl, _⟩ := hc 16 _ _ rfl rfl
    obtain ⟨x17, rfl, _⟩ := hc 17 _ _ rfl rfl
    obtain ⟨x18, rfl, _⟩ := hc 18 _ _ rfl rfl
    obtain ⟨x19, rfl, _⟩ := hc 19 _ _ rfl rfl
    obtain ⟨x20, rfl, _⟩ := hc 20 _ _ rfl rfl
    obtain ⟨x21, rfl, _⟩ := hc 21 _ _ rfl rfl
    obtain ⟨x22, rfl, _⟩ := hc 22 _ _ rfl rfl
    obtain ⟨x23, rfl, _⟩ := hc 23 _ _ rfl rfl
    obtain ⟨x24, rfl, _⟩ := hc 24 _ _ rfl rfl
    obtain ⟨x25, rfl, _⟩ := hc 25 _ _ rfl rfl
    obtain ⟨x26, rfl, _⟩ := hc 26 _ _ rfl rfl
    obtain ⟨x27, rfl, _⟩ := hc 27 _ _ rfl rfl
    obtain ⟨x28, rfl, _⟩ := hc 28 _ _ rfl rfl
    obtain ⟨x29, rfl, _⟩ := hc 29 _ _ rfl rfl
    obtain ⟨x30, rfl, _⟩ := hc 30 _ _ rfl rfl
    obtain ⟨x31, rfl, _⟩ := hc 31 _ _ rfl rfl
    obtain ⟨x32, rfl, _⟩ := hc 32 _ _ rfl rfl
    obtain ⟨x33, rfl, _⟩ := hc 33 _ _ rfl rfl
    exact ⟨⟨x0, x1, x2, x3, x4, x5, x6, x7, ⟨x8, x9, x10, x11, x12, x13, x14, x15, x16, x17, x18, x19, x20, x21, x22, x23, x24, x25, x26, x27, x28, x29, x30, x31, x32, x33⟩⟩, rfl⟩

theorem evs_of_rows : ∀ (zs : List (List Value)), (∀ z ∈ zs, allOk evDs z) → ∃ es : List Ev, zs = es.map Ev.cells ∧ ∀ e ∈ es, allOk evDs e.cells
  | [], _ => ⟨[], rfl, by simp⟩
  | z :: r, h => by
    obtain ⟨e, he⟩ := ev_of_cells (h z (by simp))
    obtain ⟨es, rfl, hes⟩ := evs_of_rows r (fun y hy => h y (by simp [hy]))
    refine ⟨e :: es, by rw [he]; rfl, fun x hx => ?_⟩
    rcases List.mem_cons.1 hx with rfl | hx
    · rw [← he]; exact h z (by simp)
    · exact hes x hx

set_option maxRecDepth 100000 in
theorem open_evs {H : Type} {enc : TypeId × Value → H} {w : World} {base : Nat} {spare : Nat → Bool} {held : Bool} {r : Reach} {b0 : Nat} {v : Value} {d : DataW H} {ps : List MemPlace}
    (hv : Value.okWide Try.prog w r b0 22 v) (h : DataW.Trod enc Try.prog w base spare held 22 v d ps) :
    ∃ A n c es, v = .slice A n c ∧ n ≤ 9223372036854775807 ∧ Evs w A n es ∧ ∀ e ∈ es, allOk evDs e.cells := by
  obtain ⟨a, len, cap, rfl⟩ := okWide_slice Try.underlying22 hv
  obtain ⟨fuel, hf⟩ := h
  obtain ⟨A, n, c, zs, hcs, hl, hm, hr, hok⟩ := open_rows Try.underlying22 ev_flat (by kernel_rfl) (by decide) hf
  obtain ⟨es, rfl, hes⟩ := evs_of_rows zs hok
  have : Value.slice a len cap = .slice A n c := by simpa [Value.cells] using hcs
  refine ⟨A, n, c, es, this, ?_, hr, hes⟩
  unfold maxLen at hm
  omega
theorem sized_mem {H : Type} {P : Program} {ts : List TypeId} {ds : List (DataW H)} (h : (DataW.weightsEach P ts ds).all (· ≤ reachBytes) = true) {j : Nat} {t : TypeId} {d : DataW H} {n : Nat} (ht : ts[j]? = some t) (hd : ds[j]? = some d) (hn : n ∈ d.weights P t) : n ≤ 140737488351232 := by
  have := List.all_eq_true.1 h _ (DataW.weights_mem_each ht hd n hn)
  exact of_decide_eq_true this
set_option maxRecDepth 100000 in
theorem open_evs_w {H : Type} {enc : TypeId × Value → H} {w : World} {base : Nat} {spare : Nat → Bool} {held : Bool} {r : Reach} {b0 : Nat} {v : Value} {d : DataW H} {ps : List MemPlace}
    (hv : Value.okWide Try.prog w r b0 22 v) (h : DataW.Trod enc Try.prog w base spare held 22 v d ps) :
    ∃ A n c es, v = .slice A n c ∧ n ≤ 9223372036854775807 ∧ Evs w A n es ∧ ∀ e ∈ es, ∀ (i : Nat) (s : ByteArray), e.cells[i]? = some (.string s) → s.size ∈ d.weights Try.prog 22 := by
  obtain ⟨a, len, cap, rfl⟩ := okWide_slice Try.underlying22 hv
  obtain ⟨fuel, hf⟩ := h
  obtain ⟨A, n, c, zs, hcs, hl, hm, hr, hok⟩ := open_rows_w Try.underlying22 ev_flat (by kernel_rfl) (by decide) hf
  obtain ⟨es, rfl, _⟩ := evs_of_rows zs (fun z hz => (hok z hz).1)
  have : Value.slice a len cap = .slice A n c := by simpa [Value.cells] using hcs
  refine ⟨A, n, c, es, this, ?_, hr, fun e he i s hs => (hok e.cells (List.mem_map_of_mem he)).2 i s hs⟩
  unfold maxLen at hm
  omega
end
end Go.Proofs.Ytkgkpoiacbjdfaa
