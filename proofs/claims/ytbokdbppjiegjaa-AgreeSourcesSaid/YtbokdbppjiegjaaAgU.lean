/- The walk of AgreeSources. -/
import Derived.Test.YtbokdbppjiegjaaAgT
import Derived.Test.YtbokdbppjiegjaaAgS
namespace Go.Proofs.Ytbokdbppjiegjaa
open Go.RowKit

set_option maxRecDepth 100000 in
set_option maxHeartbeats 4000000 in
theorem law_agreeSources (es : List Ev) (hok : ∀ e ∈ es, allOk evDs e.cells) (A : Option Addr) (n c : Nat) (at_ : Int) (w : World) (hc : n ≤ c) (hn : c ≤ 9223372036854775807) (H : Evs w A n es) :
    Calls Try.prog 5 #[.slice A n c, .int .i64 at_] w fun r w' => r = .returned (.bool true) ∧ Below w.heap.size w w' := by
  have aw := Lib.hid (fun W => awake32_any W)
  have hn2 : n ≤ 9223372036854775807 := by omega
  by_cases h40 : 40 < n
  · go_enter Try.func5, Try.ntmps5
    go_wp2_with (go_at_call 18; refine (aw.out _).mono ?_; rintro r w5 ⟨rfl, hb5⟩)
    go_ret
    exact ⟨rfl, hb5⟩
  have h40 : n ≤ 40 := by omega
  have hp : (at_ < 0 ∨ (0 ≤ at_ ∧ (n : Int) ≤ at_)) ∨ (0 ≤ at_ ∧ at_ < n) := by omega
  rcases hp with hp | ⟨h0, h1⟩
  · have cS := Lib.hid (source_out A n c at_ w hn2 hp)
    have cA := Lib.hid (fun W => asked_out A n c at_ W hn2 hp)
    rcases hp with hp | ⟨h0, h1⟩
    all_goals
      go_enter Try.func5, Try.ntmps5
      go_wp2_with (first
        | (go_at_call 19; (with_reducible refine cS.out.mono ?_); rintro r w5 ⟨rfl, hb5⟩)
        | (go_at_call 18; (with_reducible refine (aw.out _).mono ?_); rintro r w6 ⟨rfl, hb6⟩; have hB6 := Lib.hid (hb5.trans (hb6.mono hb5.size)); clear hb6)
        | (go_at_call 20; (with_reducible refine (cA.out _).mono ?_); rintro r w7 ⟨rfl, rfl⟩))
      go_ret
      exact ⟨rfl, hB6.out⟩
  · obtain ⟨k, rfl⟩ := Int.eq_ofNat_of_zero_le h0
    have hkl : k < n := by omega
    obtain ⟨b, off, x, rfl, hb, hx, hr⟩ := H.row hkl
    have HH := Lib.hid H
    have cS := Lib.hid (source_any es hok (some ⟨b, off, none⟩) n c k x w hc hn H hx)
    have cR := Lib.hid (fun W (h : Below w.heap.size w W) => refSource_any es hok (some ⟨b, off, none⟩) n c k x W hn2 (HH.out.keep h) hx)
    have cA := Lib.hid (fun W (h : Below w.heap.size w W) => asked_any es (some ⟨b, off, none⟩) n c k x W hc hn (HH.out.keep h) hx)
    have cQ := Lib.hid (fun W (h : Below w.heap.size w W) => refAsked_any es (some ⟨b, off, none⟩) n c k x W hn2 (HH.out.keep h) hx)
    have hsc := srcI_cases es k x
    generalize askedX es k x = q at cA cQ
    clear hr hx H hok
    rcases hsc with hs | ⟨t, hs, _, _⟩
    · rw [hs] at cR
      have hV := Lib.hid (show srcV (srcI es k x) = .tuple #[.int .i64 0, .bool false] by rw [hs]; rfl)
      clear hs
      cases q
      all_goals
        go_enter Try.func5, Try.ntmps5
        go_wp2_with (first
          | (go_at_call 19; (with_reducible refine cS.out.mono ?_); rintro r w5 ⟨rfl, hb5⟩; rw [hV.out])
          | (go_at_call 21; (with_reducible refine (cR.out _ hb5).mono ?_); rintro r w6 ⟨rfl, hb6⟩; have hB6 := Lib.hid (hb5.trans (hb6.mono hb5.size)); clear hb6)
          | (go_at_call 18; (with_reducible refine (aw.out _).mono ?_); rintro r w7 ⟨rfl, hb7⟩; have hB7 := Lib.hid (hB6.out.trans (hb7.mono hB6.out.size)); clear hb7)
          | (go_at_call 20; (with_reducible refine (cA.out _ hB7.out).mono ?_); rintro r w8 ⟨rfl, hb8⟩; have hB8 := Lib.hid (hB7.out.trans (hb8.mono hB7.out.size)); clear hb8)
          | (go_at_call 22; (with_reducible refine (cQ.out _ hB8.out).mono ?_); rintro r w9 ⟨rfl, rfl⟩))
        go_ret
        exact ⟨rfl, hB8.out⟩
    · rw [hs] at cR
      have hV := Lib.hid (show srcV (srcI es k x) = .tuple #[.int .i64 t, .bool true] by rw [hs]; unfold srcV; rw [if_neg (by omega), decide_eq_true (by omega)])
      clear hs
      cases q
      all_goals
        go_enter Try.func5, Try.ntmps5
        go_wp2_with (first
          | (go_at_call 19; (with_reducible refine cS.out.mono ?_); rintro r w5 ⟨rfl, hb5⟩; rw [hV.out])
          | (go_at_call 21; (with_reducible refine (cR.out _ hb5).mono ?_); rintro r w6 ⟨rfl, hb6⟩; have hB6 := Lib.hid (hb5.trans (hb6.mono hb5.size)); clear hb6)
          | (go_at_call 18; (with_reducible refine (aw.out _).mono ?_); rintro r w7 ⟨rfl, hb7⟩; have hB7 := Lib.hid (hB6.out.trans (hb7.mono hB6.out.size)); clear hb7)
          | (go_at_call 20; (with_reducible refine (cA.out _ hB7.out).mono ?_); rintro r w8 ⟨rfl, hb8⟩; have hB8 := Lib.hid (hB7.out.trans (hb8.mono hB7.out.size)); clear hb8)
          | (go_at_call 22; (with_reducible refine (cQ.out _ hB8.out).mono ?_); rintro r w9 ⟨rfl, rfl⟩))
        go_ret
        exact ⟨rfl, hB8.out⟩
end Go.Proofs.Ytbokdbppjiegjaa
