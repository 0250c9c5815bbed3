/- The walk of FaultOdd. -/
import Derived.Test.YtjiepgldgcghlaaDoorFlX
namespace Go.Proofs.YtjiepgldgcghlaaDoor
open Go.RowKit

theorem bs_app_nil (b : ByteArray) : (⟨#[]⟩ : ByteArray) ++ b = b := by
  apply ByteArray.ext
  simp
theorem tell_one (b : ByteArray) : tellS [b] none = b := by unfold tellS preS; simp [bs_app_nil]
theorem tell_two (a b : ByteArray) : tellS [a, b] none = a ++ sepS ++ b := by
  unfold tellS preS
  simp [bs_app_nil]
theorem strs_two (w : World) (a b : ByteArray) : Strs (w.alloc (.cells #[.string a, .string b] 9)) (some ⟨w.heap.size, 0, none⟩) 2 [a, b] :=
  Strs.block (ss := [a, b]) (heap_new w _) (by simp)

set_option maxRecDepth 100000 in
set_option maxHeartbeats 4000000 in
theorem law_faultOdd (a b : ByteArray) (w : World) (ha : a.size ≤ 9223372036854775807) (hb : b.size ≤ 9223372036854775807) (G : ETy w) :
    Calls Tryd.prog 6 #[.string a, .string b] w fun r w' => r = .returned (.bool true) ∧ Below w.heap.size w w' := by
  have aw := Lib.hid (fun W (h : Below w.heap.size w W) => awake05_any W (G.keep h))
  have hR := Lib.hid (Below.refl w.heap.size w)
  by_cases h1 : 50 < a.size
  · go_enter Tryd.func6, Tryd.ntmps6
    go_wp2_with (go_at_call 17; refine (aw.out _ hR.out).mono ?_; rintro r w1 ⟨rfl, hb⟩)
    go_ret
    exact ⟨rfl, hb⟩
  by_cases h2 : 50 < b.size
  · go_enter Tryd.func6, Tryd.ntmps6
    go_wp2_with (go_at_call 17; refine (aw.out _ hR.out).mono ?_; rintro r w1 ⟨rfl, hb⟩)
    go_ret
    exact ⟨rfl, hb⟩
  have G := Lib.hid G
  have hI : isErr (w.alloc (.cells #[.string b, .nilIface] 49)) none [b] (.iface 44 (.pointer (some ⟨w.heap.size, 0, none⟩))) :=
    ⟨w.heap.size, .nilIface, rfl, by simp, by simp, by simp, rfl⟩
  have hB1 := (Below.refl w.heap.size w).alloc (Nat.le_refl _) (.cells #[.string b, .nilIface] 49)
  obtain ⟨wa, hwa⟩ : ∃ W, W = w.alloc (.cells #[.string b, .nilIface] 49) := ⟨_, rfl⟩
  have hsa : wa.heap.size = w.heap.size + 1 := by rw [hwa]; simp
  have hO : isErr (wa.alloc (.cells #[.string a, .iface 44 (.pointer (some ⟨w.heap.size, 0, none⟩))] 49)) none [a, b] (.iface 44 (.pointer (some ⟨wa.heap.size, 0, none⟩))) :=
    ⟨wa.heap.size, .iface 44 (.pointer (some ⟨w.heap.size, 0, none⟩)), rfl, by simp, by simp, by simp, (by rw [← hwa] at hI; exact hI.keep ((Below.refl _ _).alloc (Nat.le_refl _) _))⟩
  have hB2 := (show Below w.heap.size w wa by rw [hwa]; exact hB1).alloc (by omega) (.cells #[.string a, .iface 44 (.pointer (some ⟨w.heap.size, 0, none⟩))] 49)
  have hI2 := (show isErr wa none [b] (.iface 44 (.pointer (some ⟨w.heap.size, 0, none⟩))) by rw [hwa]; exact hI).keep ((Below.refl wa.heap.size wa).alloc (Nat.le_refl _) (.cells #[.string a, .iface 44 (.pointer (some ⟨w.heap.size, 0, none⟩))] 49))
  rw [hsa] at hO
  rw [hwa] at hO hB2 hI2
  have hO := Lib.hid hO
  have hI2 := Lib.hid hI2
  have hB2 := Lib.hid hB2
  clear hI hB1 hsa hwa wa
  have hz1 : (preS [b]).size ≤ 1000000 := by have := preS_bound [b] 50 (by simp; omega); simp at this; omega
  have hz2 : (preS [a, b]).size ≤ 1000000 := by have := preS_bound [a, b] 50 (by simp; omega); simp at this; omega
  have hz1 := Lib.hid hz1
  have hz2 := Lib.hid hz2
  have t1 := Lib.hid (tell_one b)
  have t2 := Lib.hid (tell_two a b)
  go_enter Tryd.func6, Tryd.ntmps6
  go_wp2_with fail
  generalize (w.alloc (.cells #[.string b, .nilIface] 49)).alloc (.cells #[.string a, .iface 44 (.pointer (some ⟨w.heap.size, 0, none⟩))] 49) = w0 at hO hI2 hB2 ⊢
  refine (aw.out w0 hB2.out).mono ?_
  rintro r w1 ⟨rfl, hb⟩
  have hI1 := Lib.hid (hI2.out.keep hb)
  have hO1 := Lib.hid (hO.out.keep hb)
  have hW1 := Lib.hid (hB2.out.trans (hb.mono hB2.out.size))
  clear hb
  go_wp2_with fail
  refine (error_any none b [] w.heap.size w1 hz1.out hI1.out).mono ?_
  rintro r w2 ⟨rfl, hb⟩
  rw [t1.out]
  have hI3 := Lib.hid (hI1.out.keep hb)
  have hO3 := Lib.hid (hO1.out.keep hb)
  have hW3 := Lib.hid (hW1.out.trans (hb.mono hW1.out.size))
  clear hb
  go_wp2_with fail
  refine (error_any none a [b] (w.heap.size + 1) w2 hz2.out hO3.out).mono ?_
  rintro r w3 ⟨rfl, hb⟩
  rw [t2.out]
  have hI4 := Lib.hid (hI3.out.keep hb)
  have hO4 := Lib.hid (hO3.out.keep hb)
  have hW4 := Lib.hid (hW3.out.trans (hb.mono hW3.out.size))
  clear hb
  go_wp2_with fail
  refine (code_none a [b] _ w3 hO4.out (G.out.keep hW4.out)).mono ?_
  rintro r w4 ⟨rfl, hb⟩
  have hI5 := Lib.hid (hI4.out.keep hb)
  have hO5 := Lib.hid (hO4.out.keep hb)
  have hW5 := Lib.hid (hW4.out.trans (hb.mono hW4.out.size))
  clear hb
  go_wp2_with fail
  refine (code_none b [] _ w4 hI5.out (G.out.keep hW5.out)).mono ?_
  rintro r w5 ⟨rfl, hb⟩
  have hO6 := Lib.hid (hO5.out.keep hb)
  have hW6 := Lib.hid (hW5.out.trans (hb.mono hW5.out.size))
  clear hb
  go_wp2_with fail
  refine (reason_of (code_none a [b] _ w5 hO6.out (G.out.keep hW6.out))).mono ?_
  rintro r w6 ⟨rfl, hb⟩
  rw [show reasonR 14 = 2 from rfl]
  have hO7 := Lib.hid (hO6.out.keep hb)
  have hW7 := Lib.hid (hW6.out.trans (hb.mono hW6.out.size))
  clear hb
  go_wp2_with fail
  refine (path_any none [a, b] _ w6 (by simp) hO7.out (G.out.keep hW7.out)).mono ?_
  intro r w7 hP
  obtain ⟨A7, k7, c7, rfl, hk7, hS7, hb⟩ := hP.strs
  obtain rfl : k7 = 2 := hk7.out
  have hO8 := Lib.hid (hO7.out.keep hb)
  have hW8 := Lib.hid (hW7.out.trans (hb.mono hW7.out.size))
  clear hb
  have hb8 := (Below.refl w7.heap.size w7).alloc (Nat.le_refl _) (.cells #[.string a, .string b] 9)
  have hS8 := Lib.hid (hS7.keep hb8)
  have hT8 := Lib.hid (strs_two w7 a b)
  have hO9 := Lib.hid (hO8.out.keep hb8)
  have hW9 := Lib.hid (hW8.out.trans (hb8.mono hW8.out.size))
  clear hb8 hS7
  go_wp2_with fail
  refine (same_any [a, b] [a, b] A7 _ 2 c7 2 2 _ (by decide) (by decide) hS8.out hT8.out).mono ?_
  rintro r w9 ⟨rfl, q9, rfl⟩
  rw [decide_eq_true (rfl : [a, b] = [a, b])]
  have hO10 := Lib.hid (hO9.out.keep (drewN_below q9))
  have hW10 := Lib.hid (hW9.out.trans ((drewN_below q9).mono hW9.out.size))
  generalize (w7.alloc (.cells #[.string a, .string b] 9)).drewN q9 = w10 at hO10 hW10 ⊢
  go_wp2_with fail
  refine (fIs_none a 3 [b] _ w10 hO10.out (by decide)).mono ?_
  rintro r w11 ⟨rfl, rfl⟩
  go_wp2_with fail
  go_ret
  exact ⟨rfl, hW10.out⟩
end Go.Proofs.YtjiepgldgcghlaaDoor
