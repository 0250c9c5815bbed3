/- The page's example, and the walks of NamesFirst and NamesWithout. -/
import Derived.Test.YtfoegpacjkcidaaNmC
namespace Go.Proofs.Ytfoegpacjkcidaa
open Go.RowKit

theorem drewN_below {w : World} (q : Nat) : Below w.heap.size w (w.drewN q) := ⟨rfl, rfl, rfl, Nat.le_refl _, fun _ _ => rfl⟩
theorem firstAB : firstV [⟨#[97]⟩, ⟨#[98]⟩] [⟨#[98]⟩, ⟨#[99]⟩, ⟨#[97]⟩] = .tuple #[.string ⟨#[97]⟩, .bool true] := by
  have : has [⟨#[98]⟩, ⟨#[99]⟩, ⟨#[97]⟩] ⟨#[97]⟩ = true := by decide +kernel
  simp [firstV, List.find?, this]
set_option maxHeartbeats 400000 in
theorem awake04_any (w : World) :
    Calls Try.prog 14 #[] w fun r w' => r = .returned (.bool true) ∧ Below w.heap.size w w' := by
  have h1 := Strs.block (ss := [⟨#[97]⟩, ⟨#[98]⟩]) (heap_past (heap_new w (.cells #[.string ⟨#[97]⟩, .string ⟨#[98]⟩] 9)) (.cells #[.string ⟨#[98]⟩, .string ⟨#[99]⟩, .string ⟨#[97]⟩] 9)) (by simp only [World.size_alloc]; omega)
  have h2 := Strs.block (ss := [⟨#[98]⟩, ⟨#[99]⟩, ⟨#[97]⟩]) (heap_new (w.alloc (.cells #[.string ⟨#[97]⟩, .string ⟨#[98]⟩] 9)) (.cells #[.string ⟨#[98]⟩, .string ⟨#[99]⟩, .string ⟨#[97]⟩] 9)) (by simp only [World.size_alloc]; omega)
  simp only [World.size_alloc] at h2
  have h1 := Lib.hid h1
  have h2 := Lib.hid h2
  go_enter Try.func14, Try.ntmps14
  go_wp2_with fail
  refine (nmFirst_any _ _ _ _ 2 2 3 3 _ (by decide) (by decide) h1.out h2.out).mono ?_
  rintro r w1 ⟨rfl, rfl⟩
  rw [firstAB]
  go_wp2_with fail
  go_ret
  exact ⟨rfl, ((Below.refl _ _).alloc (Nat.le_refl _) _).alloc (by simp) _⟩

theorem find_cases {α : Type} (p : α → Bool) (l : List α) : (l.find? p = none) ∨ ∃ x, l.find? p = some x := by
  cases h : l.find? p with
  | none => exact .inl rfl
  | some x => exact .inr ⟨x, rfl⟩
theorem onceTo_eq (ss : List ByteArray) : onceTo ss ss.length = once ss := rfl
set_option maxHeartbeats 1000000 in
theorem law_namesFirst (ss ts : List ByteArray) (A B : Option Addr) (n c m d : Nat) (s : ByteArray) (w : World) (hn : n ≤ c) (hn' : c ≤ 9223372036854775807) (hm : m ≤ 9223372036854775807) (hss : s.size ≤ 9223372036854775807) (H : Strs w A n ss) (K : Strs w B m ts)
    (hs : ∀ s ∈ ss, s.size ≤ 9223372036854775807) (ht : ∀ s ∈ ts, s.size ≤ 9223372036854775807) :
    Calls Try.prog 4 #[.slice A n c, .slice B m d, .string s] w fun r w' => r = .returned (.bool true) ∧ Below w.heap.size w w' := by
  have HH := Lib.hid H
  have KK := Lib.hid K
  have hlen := Lib.hid H.len
  have fA := few_any ss A n c 20 w (by omega) H hs
  have fB := few_any ts B m d 20 w hm K ht
  have aw := awake04_any w
  clear hs ht
  cases h1 : fewB ss 20 with
  | false =>
    rw [h1] at fA
    have fA := Lib.hid fA
    have fB := Lib.hid fB
    have aw := Lib.hid aw
    clear h1
    go_enter Try.func4, Try.ntmps4
    go_wp2_with fail
    refine fA.out.mono ?_
    rintro r w1 ⟨rfl, rfl⟩
    go_wp2_with fail
    refine aw.out.mono ?_
    rintro r w1 ⟨rfl, hb⟩
    go_wp2_with fail
    go_ret
    exact ⟨rfl, hb⟩
  | true =>
  rw [h1] at fA
  have hl1 := fewB_len h1
  cases h2 : fewB ts 20 with
  | false =>
    rw [h2] at fB
    have fA := Lib.hid fA
    have fB := Lib.hid fB
    have aw := Lib.hid aw
    clear h1 h2 hl1
    go_enter Try.func4, Try.ntmps4
    go_wp2_with fail
    refine fA.out.mono ?_
    rintro r w1 ⟨rfl, rfl⟩
    go_wp2_with fail
    refine fB.out.mono ?_
    rintro r w1 ⟨rfl, rfl⟩
    go_wp2_with fail
    refine aw.out.mono ?_
    rintro r w1 ⟨rfl, hb⟩
    go_wp2_with fail
    go_ret
    exact ⟨rfl, hb⟩
  | true =>
  rw [h2] at fB
  have fA := Lib.hid fA
  have fB := Lib.hid fB
  have aw' := Lib.hid (awake04_any)
  have aw := Lib.hid aw
  clear h1 h2
  by_cases h3 : 200 < s.size
  · clear hl1
    go_enter Try.func4, Try.ntmps4
    go_wp2_with fail
    refine fA.out.mono ?_
    rintro r w1 ⟨rfl, rfl⟩
    go_wp2_with fail
    refine fB.out.mono ?_
    rintro r w1 ⟨rfl, rfl⟩
    go_wp2_with fail
    refine aw.out.mono ?_
    rintro r w1 ⟨rfl, hb⟩
    go_wp2_with fail
    go_ret
    exact ⟨rfl, hb⟩
  have fP := nmFirst_any ss ts A B n c m d w (by omega) hm H K
  have fR := refFirst_any ss ts A B n c m d w (by omega) hm H K
  rcases find_cases (has ts) ss with hf | ⟨x, hf⟩
  all_goals
    simp only [firstV, hf] at fP fR
    have fP := Lib.hid fP
    have fR := Lib.hid fR
    clear hf
    go_enter Try.func4, Try.ntmps4
    go_wp2_with fail
    refine fA.out.mono ?_
    rintro r w1 ⟨rfl, rfl⟩
    go_wp2_with fail
    refine fB.out.mono ?_
    rintro r w1 ⟨rfl, rfl⟩
    go_wp2_with fail
    refine fP.out.mono ?_
    rintro r w1 ⟨rfl, rfl⟩
    go_wp2_with fail
    refine fR.out.mono ?_
    rintro r w1 ⟨rfl, rfl⟩
    go_wp2_with fail
    go_loopw [11, 12] (fun o i wr => ∃ k : Nat, k ≤ n ∧ i = .int .i64 k ∧ o = .bool (onceTo ss k) ∧ Hid (Below w.heap.size w wr)) (fun _ i _ => n - (intOf i).toNat)
    case atStart => exact ⟨0, by omega, rfl, rfl, Below.refl _ _⟩
    case round =>
      obtain ⟨k, hk, rfl, rfl, hD⟩ := hrel
      by_cases hlt : k < n
      · obtain ⟨b, off, y, rfl, hb, hy, hc0⟩ := H.at_ hlt
        have hc := (hD.out.cell (p := ⟨b, off + k, none⟩) hb).trans hc0
        have hxd : ss.getD k ByteArray.empty = y := by rw [List.getD_eq_getElem?_getD, hy]; rfl
        have hstep := onceTo_succ ss k
        rw [hxd] at hstep
        have hcall := fun q => refHas_any (ss.take k) (some ⟨b, off, none⟩) k c y (wr.drewN q) (by omega) (((HH.out.keep hD.out).keep (drewN_below q)).take_ hk)
        have hlt0 : (0 : Int) ≤ (k : Int) := by omega
        have hlt1 : (k : Int) < (n : Int) := by omega
        have hkc : (k : Int) ≤ (c : Int) := by omega
        clear hxd hy hc0
        cases ho : onceTo ss k with
        | true =>
          rw [ho] at hstep
          have hstep := Lib.hid hstep
          have hcall := Lib.hid hcall
          clear ho
          go_wp2
          go_quiet ((go_at_call 17; exact Calls.quiet_of_same ((hcall.out _).mono (fun e w' h => ⟨h.1, h.2.symm⟩))))
          go_wp2
          go_roundw
          case rel => exact ⟨k + 1, by omega, by go_num, by rw [hstep.out]; simp, hD.out.trans (Below.mono (drewN_below _) hD.out.size)⟩
          case measure => simp [intOf]; omega
        | false =>
          rw [ho] at hstep
          have hstep := Lib.hid hstep
          clear ho hcall
          go_wp2
          go_quiet (fail)
          go_wp2
          go_roundw
          case rel => exact ⟨k + 1, by omega, by go_num, by rw [hstep.out]; simp, hD.out.trans (Below.mono (drewN_below _) hD.out.size)⟩
          case measure => simp [intOf]; omega
      · have hon := Lib.hid (show onceTo ss k = once ss by rw [show k = ss.length by rw [hlen.out]; omega]; rfl)
        have hw := hD.out
        have cP := Lib.hid (fun W (h : Below w.heap.size w W) => nmHas_any ss A n c s W (by omega) (HH.out.keep h))
        have cR := Lib.hid (fun W (h : Below w.heap.size w W) => refHas_any ss A n c s W (by omega) (HH.out.keep h))
        have cO := Lib.hid (fun W (h : Below w.heap.size w W) => nmOnce_any ss A n c W hn hn' (HH.out.keep h))
        go_wp2_with fail
        refine (aw'.out wr).mono ?_
        rintro r w1 ⟨rfl, hb⟩
        have hb1 := Lib.hid (hw.trans (hb.mono hw.size))
        rw [hon.out]
        clear hb hw
        go_wp2_with fail
        refine (cP.out w1 hb1.out).mono ?_
        rintro r w2 ⟨rfl, rfl⟩
        go_wp2_with fail
        refine (cR.out w1 hb1.out).mono ?_
        rintro r w2 ⟨rfl, rfl⟩
        go_wp2_with fail
        refine (cO.out w1 hb1.out).mono ?_
        rintro r w2 ⟨rfl, rfl⟩
        go_wp2_with fail
        go_ret
        exact ⟨rfl, hb1.out⟩
end Go.Proofs.Ytfoegpacjkcidaa
