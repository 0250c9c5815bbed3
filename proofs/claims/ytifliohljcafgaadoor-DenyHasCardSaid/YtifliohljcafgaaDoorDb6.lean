/- DenyHas: the walk of the law. (printed by wip/gen_dnu.py) -/
import Derived.Test.YtifliohljcafgaaDoorDb5
import Derived.Test.YtifliohljcafgaaDoorDb0
namespace Go.Proofs.YtifliohljcafgaaDoor
open Go.RowKit Go.Maps

/-- Both answers, and the answer of no gate. -/
theorem has_one {w3 : World} {ga : Nat} (who : Int) (g : Nat) (A6 B6 A B : Option Addr) (n6 c6 m6 d6 n c m d : Nat) (l f : Int) (gs : List Gr) (ss : List ByteArray) (u s : ByteArray) (hn : n ≤ 1000) (hm : m ≤ 1000) (hn6 : n6 ≤ 1000) (hm6 : m6 ≤ 1000)
    (G : GateB w3 g A6 B6 n6 c6 m6 d6 l f) (hG6 : Grs w3 A6 n6 gs) (hS6 : Strs w3 B6 m6 ss) (hG : Grs w3 A n gs) (hS : Strs w3 B m ss) :
    ∃ rb : Bool, (∀ W L x, St w3 ga W L → Nm L x (pubT (keyT who)) → Calls Tryd.prog 11 #[.pointer (some ⟨g, 0, none⟩), .pointer (some ⟨ga, 0, none⟩), .string u, .string s, .int .i64 x] W fun r w' => r = .returned (.bool rb) ∧ Below W.heap.size W w') ∧
      (∀ W, Below w3.heap.size w3 W → Calls Tryd.prog 17 #[.slice A n c, .slice B m d, .string u, .string s, .string (bs (encO (pubT (keyT who))))] W fun r w' => r = .returned (.bool rb) ∧ Below W.heap.size W w') ∧
      (∀ W L x, St w3 ga W L → Nm L x (pubT (keyT who)) → Calls Tryd.prog 11 #[.pointer none, .pointer (some ⟨ga, 0, none⟩), .string u, .string s, .int .i64 x] W fun r w' => r = .returned (.bool false) ∧ Below W.heap.size W w') := by
  rcases pub_of who with ⟨_, p, rfl, hp, e⟩ | ⟨_, e⟩
  · rw [e]
    exact ⟨has ss s && gs.any (grIs u p), fun W L x hT hN => hasT_any _ p x g A6 B6 n6 c6 m6 d6 l f gs ss u s W hn6 hm6 (hT.own x p hN.1) (G.keep hT.below) (hG6.keep hT.below) (hS6.keep hT.below), fun W hb => refHas24_any _ p A B n c m d gs ss u s W hn hm (owner22_some p hp W) (hG.keep hb) (hS.keep hb), fun W L x hT hN => hasN_any _ p true x u s W (hT.own x p hN.1)⟩
  · rw [e]
    exact ⟨false, fun W L x hT hN => hasF_any _ x g u s W (hT.noOwn x (by rw [hN.1]; decide)), fun W hb => refHas24_no _ 0 A B n c m d u s W (owner22_none W), fun W L x hT hN => hasN_any _ 0 false x u s W (hT.noOwn x (by rw [hN.1]; decide))⟩
theorem few24_lens_ {gs : List Gr} {ss : List ByteArray} (h : fewB24 gs ss = true) : gs.length ≤ 20 ∧ ss.length ≤ 20 := by
  unfold fewB24 at h
  simp only [Bool.and_eq_true, decide_eq_true_eq] at h
  exact ⟨h.1.1.1, h.1.1.2⟩
def dsDn9 : List (Option Nat) := [some 61, some 62, some 63, some 64, some 65, some 66, some 67, some 68, some 69, some 70, some 71, some 72, some 73, some 74, some 75, some 76, some 77, some 78, some 79, some 80, some 81, some 82, some 83, some 84, some 85, some 86, some 87, some 88, some 89, some 90, some 91, some 92, some 93, some 94, some 95, some 96, some 97, some 98, some 99, some 100, some 101, some 102]
def tbDn9 : List (List Nat) := [[], [], [], [2], [], [4], [], [0, 1, 3, 5, 6], [7], [8], [8], [8], [8, 11], [8], [8, 13], [8, 9, 10, 12, 14], [8, 15], [16], [17], [17], [17], [17, 20], [17], [17, 22], [17], [17], [17], [17, 25, 26], [17, 24, 27], [17, 18, 19, 21, 23, 28], [17, 29], [30], [31], [31], [31, 33], [31], [31, 35], [31], [31], [31, 37, 38], [31, 32, 34, 36, 39], [31, 40]]
def vsDn9 (g : Nat) (ga : Nat) (p : Nat) (x1 : Int) (who : Int) (u : ByteArray) (s : ByteArray) : List (Option Value) := [some (.pointer (some ⟨g, 0, none⟩)), some (.pointer (some ⟨ga, 0, none⟩)), some (.pointer (some ⟨p + 1, 0, none⟩)), some (.string u), some (.pointer (some ⟨p + 1, 1, none⟩)), some (.string s), some (.int .i64 x1), some (.bool false), some (.bool false), some (.pointer (some ⟨g, 0, none⟩)), some (.pointer (some ⟨ga, 0, none⟩)), some (.pointer (some ⟨p + 1, 0, none⟩)), some (.string u), some (.pointer (some ⟨p + 1, 1, none⟩)), some (.string s), some (.bool false), some (.bool false), some (.bool false), some (.pointer (some ⟨g, 0, none⟩)), some (.pointer (some ⟨ga, 0, none⟩)), some (.pointer (some ⟨p + 1, 0, none⟩)), some (.string u), some (.pointer (some ⟨p + 1, 1, none⟩)), some (.string s), some (.pointer (some ⟨ga, 0, none⟩)), some (.pointer (some ⟨ga, 0, none⟩)), some (.int .i64 x1), none, none, some (.bool false), some (.bool false), some (.bool false), some (.pointer (some ⟨g, 0, none⟩)), some (.pointer (some ⟨p + 1, 0, none⟩)), some (.string u), some (.pointer (some ⟨p + 1, 1, none⟩)), some (.string s), some (.pointer (some ⟨ga, 0, none⟩)), some (.int .i64 x1), none, some (.bool false), some (.bool false)]
def dsDn12 : List (Option Nat) := [some 103, some 104, some 105, some 106, some 107, some 108, some 109, some 110, some 111, some 112, some 113, some 114, some 115, some 116, some 117, some 118, some 119, some 120, some 121, some 122, some 123, some 124, some 125, some 126, some 127, some 128, some 129, some 130, some 131, some 132, some 133, some 134, some 135, some 136, some 137, some 138, some 139, some 140, some 141, some 142, some 143, some 144, some 145, some 146, some 147, some 148, some 149, some 150, some 151, some 152, some 153, some 154, some 155, some 156, some 157, some 158, some 159, some 6]
def tbDn12 : List (List Nat) := [[], [0], [1], [1], [1], [1, 4], [1], [1, 6], [1], [1], [1, 8, 9], [1, 2, 3, 5, 7, 10], [1], [1, 12], [1], [1, 14], [1], [1, 16], [1], [1, 18], [1], [1, 20], [1, 13, 15, 17, 19, 21], [1, 11, 22], [1, 23], [24], [25], [25], [25], [25, 28], [25], [25, 30], [25], [25], [25, 32, 33], [25, 26, 27, 29, 31, 34], [25, 35], [25, 36], [37], [38], [38, 39], [38, 40], [41], [42], [42, 43], [42, 44], [45], [46], [46, 47], [46, 48], [46, 49], [50], [51], [51, 52], [51, 53], [51, 54], [51, 55], [56]]
def vsDn12 (g : Nat) (ga : Nat) (p : Nat) (x1 : Int) (who : Int) (u : ByteArray) (s : ByteArray) (y88 : Value) (y89 : Value) (y100 : Value) (A : Option Addr) (B : Option Addr) (n : Nat) (c : Nat) (m : Nat) (d : Nat) (rb : Bool) (kt : ByteArray) : List (Option Value) := [some (.bool true), some (.bool true), some (.pointer (some ⟨g, 0, none⟩)), some (.pointer (some ⟨ga, 0, none⟩)), some (.pointer (some ⟨p + 1, 0, none⟩)), some (.string u), some (.pointer (some ⟨p + 1, 1, none⟩)), some (.string s), some (.pointer (some ⟨ga, 0, none⟩)), some (.int .i64 x1), none, some (.bool rb), some (.pointer (some ⟨p, 0, none⟩)), some (.slice A n c), some (.pointer (some ⟨p, 1, none⟩)), some (.slice B m d), some (.pointer (some ⟨p + 1, 0, none⟩)), some (.string u), some (.pointer (some ⟨p + 1, 1, none⟩)), some (.string s), some (.int .i64 who), some (.string kt), some (.bool rb), some (.bool true), some (.bool true), some (.bool true), some (.pointer none), some (.pointer (some ⟨ga, 0, none⟩)), some (.pointer (some ⟨p + 1, 0, none⟩)), some (.string u), some (.pointer (some ⟨p + 1, 1, none⟩)), some (.string s), some (.pointer (some ⟨ga, 0, none⟩)), some (.int .i64 x1), none, some (.bool false), some (.bool true), some (.bool true), some (.bool true), some (.pointer none), some (.bool true), some (.bool true), some (.bool true), some (.pointer none), some (.bool true), some (.bool true), some (.bool true), some (.pointer none), some (.int .i64 0), some (.bool true), some (.bool true), some (.bool true), some (.pointer none), some (.slice none 0 0), some (.int .i64 0), some (.bool true), some (.bool true), some (.bool true)]
set_option maxRecDepth 100000 in
set_option maxHeartbeats 8000000 in
theorem denyHas_any (gs : List Gr) (ss : List ByteArray) (l who : Int) (u s : ByteArray) (A B : Option Addr) (n c m d : Nat) (w : World) (hc : n ≤ c) (hn : c ≤ 9223372036854775807) (hd : m ≤ d) (hm : d ≤ 9223372036854775807)
    (H : Grs w A n gs) (hg : ∀ x ∈ gs, x.1.size ≤ 9223372036854775807) (K : Strs w B m ss) (hs : ∀ s ∈ ss, s.size ≤ 9223372036854775807) :
    Calls Tryd.prog 4 #[.agg #[.slice A n c, .slice B m d, .int .i64 l], .agg #[.string u, .string s], .int .i64 who] w fun r w' => r = .returned (.bool true) ∧ Below w.heap.size w w' := by
  have aw := Lib.hid (fun W => awake24_any W)
  obtain ⟨W1, hW1⟩ : ∃ W1, W1 = (w.alloc (.cells #[.slice A n c, .slice B m d, .int .i64 l] 42)).alloc (.cells #[.string u, .string s] 43) := ⟨_, rfl⟩
  have hb1 : Below w.heap.size w W1 := by rw [hW1]; exact (below_new w _).trans (Below.mono (below_new _ _) (below_new w _).size)
  have hx0 : W1.heap[w.heap.size]? = some (.cells #[.slice A n c, .slice B m d, .int .i64 l] 42) := by rw [hW1]; exact ((below_new _ _).block w.heap.size (Array.getElem?_eq_some_iff.1 (heap_new w _)).1).trans (heap_new w _)
  have hx1 : W1.heap[w.heap.size + 1]? = some (.cells #[.string u, .string s] 43) := by
    rw [hW1]
    have := heap_new (w.alloc (.cells #[.slice A n c, .slice B m d, .int .i64 l] 42)) (.cells #[.string u, .string s] 43)
    rwa [show (w.alloc (.cells #[.slice A n c, .slice B m d, .int .i64 l] 42)).heap.size = w.heap.size + 1 by simp] at this
  have hld0 := rangeAt_list (cs := [.slice A n c, .slice B m d, .int .i64 l]) (by exact hx0)
  have hS := Lib.hid (fun W (hb : Below W1.heap.size W1 W) => (⟨cell_of_row _ _ 0 _ _ _ ((hb.block w.heap.size (Array.getElem?_eq_some_iff.1 hx0).1).trans hx0), cell_of_row _ _ 1 _ _ _ ((hb.block w.heap.size (Array.getElem?_eq_some_iff.1 hx0).1).trans hx0), cell_of_row _ _ 2 _ _ _ ((hb.block w.heap.size (Array.getElem?_eq_some_iff.1 hx0).1).trans hx0), cell_of_row _ _ 0 _ _ _ ((hb.block (w.heap.size + 1) (Array.getElem?_eq_some_iff.1 hx1).1).trans hx1), cell_of_row _ _ 1 _ _ _ ((hb.block (w.heap.size + 1) (Array.getElem?_eq_some_iff.1 hx1).1).trans hx1)⟩ :
    W.cell? ⟨w.heap.size, 0, none⟩ = some (.slice A n c) ∧ W.cell? ⟨w.heap.size, 1, none⟩ = some (.slice B m d) ∧ W.cell? ⟨w.heap.size, 2, none⟩ = some (.int .i64 l) ∧ W.cell? ⟨w.heap.size + 1, 0, none⟩ = some (.string u) ∧ W.cell? ⟨w.heap.size + 1, 1, none⟩ = some (.string s)))
  have cF := fun W (h : Below w.heap.size w W) => few24_any gs ss l A B n c m d W (by omega) (by omega) (H.keep h) hg (K.keep h) hs
  have cN := Lib.hid (fun W (h : Below w.heap.size w W) (h1 : n ≤ 1000000) (h2 : m ≤ 1000000) => new_any gs ss l A B n c m d W hc hn hd hm h1 h2 (H.keep h) hg (K.keep h) hs)
  have cR := Lib.hid (fun W (h : Below w.heap.size w W) => refDnCheck_any gs ss l A B n c m d W hc hn hd hm (H.keep h) hg (K.keep h) hs)
  have hKS := Lib.hid (fun W (h : Below w.heap.size w W) => And.intro (H.keep h) (K.keep h))
  have hgl := H.len
  have hsl := K.len
  have hfew := @few24_lens_ gs ss
  have hB1 := Lib.hid hb1
  clear H K hg hs hb1 hx0 hx1
  generalize fewB24 gs ss = q at cF hfew
  have cF := Lib.hid cF
  by_cases hq : q = true ∧ u.size ≤ 100 ∧ s.size ≤ 100
  case neg =>
    have hq2 : q = false ∨ (q = true ∧ decide ((100 : Int) < (u.size : Int)) = true ∧ 100 < u.size) ∨ (q = true ∧ decide ((100 : Int) < (u.size : Int)) = false ∧ decide (100 < u.size) = false ∧ u.size ≤ 100 ∧ decide ((100 : Int) < (s.size : Int)) = true ∧ 100 < s.size) := by
      cases q with
      | false => exact .inl rfl
      | true =>
        by_cases h1 : u.size ≤ 100
        · have h2 : ¬ s.size ≤ 100 := fun h => hq ⟨rfl, h1, h⟩
          exact .inr (.inr ⟨rfl, decide_eq_false (by omega), decide_eq_false (by omega), h1, decide_eq_true (by omega), by omega⟩)
        · exact .inr (.inl ⟨rfl, decide_eq_true (by omega), by omega⟩)
    clear hq hfew hgl hsl cN cR hKS
    rcases hq2 with rfl | ⟨rfl, h100, h100n⟩ | ⟨rfl, h100, h100d, h100n, h101, h101n⟩
    all_goals
      go_enter Tryd.func4, Tryd.ntmps4
      go_upto_region 1 with fail
      rw [← hW1]
      clear hW1
      go_wp2_with (first
        | (refine wpList_load_at 42 (.tmp 3) rfl rfl w.heap.size 0 rfl [.slice A n c, .slice B m d, .int .i64 l] _ hld0 Tryd.underlying42 rfl (by kernel_rfl) ?_)
        | (go_at_call 14; (with_reducible refine (cF.out _ hB1.out).mono ?_); rintro r w2 ⟨rfl, hb2⟩; obtain ⟨s0, s1, s2, s3, s4⟩ := hS.out w2 hb2; have hB2 := Lib.hid (hB1.out.trans (hb2.mono hB1.out.size)); clear hb2)
        | (go_at_call 5; refine (aw.out _).mono ?_; rintro r w8 ⟨rfl, hb8⟩))
      go_ret
      exact ⟨rfl, hB2.out.trans (hb8.mono hB2.out.size)⟩
  case pos =>
    obtain ⟨rfl, h100n, h101n⟩ := hq
    obtain ⟨k1, k2⟩ := hfew rfl
    have hnm := Lib.hid (show n ≤ 20 ∧ m ≤ 20 by omega)
    have cN := Lib.hid (fun W (h : Below w.heap.size w W) => cN.out W h (by omega) (by omega))
    have h100 : decide ((100 : Int) < (u.size : Int)) = false := decide_eq_false (by omega)
    have h100d : decide (100 < u.size) = false := decide_eq_false (by omega)
    have h101 : decide ((100 : Int) < (s.size : Int)) = false := decide_eq_false (by omega)
    have h101d : decide (100 < s.size) = false := decide_eq_false (by omega)
    clear hfew hgl hsl k1 k2 h100n h101n
    by_cases h0 : denyE gs ss l = 0
    · have cN := Lib.hid (fun W (h : Below w.heap.size w W) => Calls.mono (cN.out W h) (fun r w' h => (show ∃ g A n c B m d, r = .returned (.tuple #[.pointer (some ⟨g, 0, none⟩), .nilIface]) ∧ GateB w' g A B n c m d l 0 ∧ Grs w' A n gs ∧ Strs w' B m ss ∧ W.heap.size ≤ g ∧ Below W.heap.size W w' by unfold NewR at h; rwa [if_pos h0] at h)))
      clear h0 cR
      go_enter Tryd.func4, Tryd.ntmps4
      go_upto_region 1 with fail
      rw [← hW1]
      clear hW1
      go_upto_region 7 with (first
        | (refine wpList_load_at 42 (.tmp 3) rfl rfl w.heap.size 0 rfl [.slice A n c, .slice B m d, .int .i64 l] _ hld0 Tryd.underlying42 rfl (by kernel_rfl) ?_)
        | (go_at_call 14; (with_reducible refine (cF.out _ hB1.out).mono ?_); rintro r w2 ⟨rfl, hb2⟩; obtain ⟨s0, s1, s2, s3, s4⟩ := hS.out w2 hb2; have hD2 := Lib.hid hb2; have hB2 := Lib.hid (hB1.out.trans (hb2.mono hB1.out.size)); clear hb2)
        | (go_at_call 6; (with_reducible refine (cN.out _ hB2.out).mono ?_); rintro r w3 ⟨g, A6, n6, c6, B6, m6, d6, rfl, hG6, hGr6, hS6, hge, hb6⟩
           have hgl := hGr6.len
           have hsl := hS6.len
           have hB3 := Lib.hid (hB2.out.trans (hb6.mono hB2.out.size))
           have hD3 := Lib.hid (hD2.out.trans (hb6.mono hD2.out.size))
           have hone := Lib.hid (fun ga => has_one (w3 := w3) (ga := ga) who g A6 B6 A B n6 c6 m6 d6 n c m d l 0 gs ss u s (by have := hnm.out; omega) (by have := hnm.out; omega) (by have := hnm.out; have := (hKS.out w3 hB3.out).1.len; omega) (by have := hnm.out; have := (hKS.out w3 hB3.out).2.len; omega) hG6 hGr6 hS6 (hKS.out w3 hB3.out).1 (hKS.out w3 hB3.out).2)
           clear hG6 hGr6 hS6 hge hb6 hgl hsl))
      clear s0 s1 s2 s3 s4 hld0 h100 h100d h101 h101d cF cN hKS hnm
      have hcl := Lib.hid (fun W (h : Below w3.heap.size w3 W) => hS.out W (hD3.out.trans (h.mono hD3.out.size)))
      have cT := Lib.hid (tnew_any w3)
      clear hS hB1 hD2 hB2
      go_upto_region 9 with (first
        | (go_at_call 7; refine cT.out.mono ?_; rintro r w4 ⟨A0, rfl, hN, hA, hb⟩
           have hS0 := St.start hN hA hb
           have cK := Lib.hid (hS0.key (by decide) who)
           clear hN hA hb cT hS0
           generalize A0.g = ga at *)
        | (go_at_call 9; refine cK.out.mono ?_; rintro r w5 ⟨L1, x1, rfl, h1, hG, hM, -, -, -⟩
           have hS5 := Lib.hid h1
           have hM5 := Lib.hid hM
           have hL5 := Lib.hid (show L1.length ≤ 1 by have := hG.len.2; simp at this; omega)
           clear h1 hG hM cK))
      obtain ⟨rb, cH1, cH2, cH3⟩ := hone.out ga
      replace cH1 := Lib.hid cH1
      replace cH2 := Lib.hid cH2
      replace cH3 := Lib.hid cH3
      clear hone hD3
      refine region_iw tbDn9 dsDn9 (vsDn9 g ga (w.heap.size) x1 who u s) (fun L T W => ∃ Lc, St w3 ga W Lc ∧ Nm Lc x1 (keyT who) ∧ Lc.length ≤ 1 + (L 27).toNat + (L 28).toNat + (L 39).toNat ∧ (L 27 = true → L 28 = false → ∃ x, T.getD 88 undef = .int .i64 x) ∧ (L 28 = true → L 29 = false → ∃ x o, T.getD 89 undef = .int .i64 x ∧ Nm Lc x (hashT o)) ∧ (L 39 = true → L 40 = false → ∃ x, T.getD 100 undef = .int .i64 x)) rfl (by decide) (by kernel_rfl) ?hlt ?hstep ?hdone ?hstart
      case hstart => exact ⟨L1, hS5.out.keep (drewN_below 1), hM5.out, Nat.le_trans hL5.out (Nat.le_trans (Nat.le_add_right _ _) (Nat.le_trans (Nat.le_add_right _ _) (Nat.le_add_right _ _))), fun h => absurd h (inv_not (n := 42) (i := 27) (by decide)), fun h => absurd h (inv_not (n := 42) (i := 28) (by decide)), fun h => absurd h (inv_not (n := 42) (i := 39) (by decide))⟩
      case hlt =>
        intro ix o ho
        have hi := (Array.getElem?_eq_some_iff.1 ho).1
        match ix, hi with
        | 0, _ => obtain rfl := Option.some.inj ho; decide
        | 1, _ => obtain rfl := Option.some.inj ho; decide
        | 2, _ => obtain rfl := Option.some.inj ho; decide
        | 3, _ => obtain rfl := Option.some.inj ho; decide
        | 4, _ => obtain rfl := Option.some.inj ho; decide
        | 5, _ => obtain rfl := Option.some.inj ho; decide
        | 6, _ => obtain rfl := Option.some.inj ho; decide
        | 7, _ => obtain rfl := Option.some.inj ho; decide
        | 8, _ => obtain rfl := Option.some.inj ho; decide
        | 9, _ => obtain rfl := Option.some.inj ho; decide
        | 10, _ => obtain rfl := Option.some.inj ho; decide
        | 11, _ => obtain rfl := Option.some.inj ho; decide
        | 12, _ => obtain rfl := Option.some.inj ho; decide
        | 13, _ => obtain rfl := Option.some.inj ho; decide
        | 14, _ => obtain rfl := Option.some.inj ho; decide
        | 15, _ => obtain rfl := Option.some.inj ho; decide
        | 16, _ => obtain rfl := Option.some.inj ho; decide
        | 17, _ => obtain rfl := Option.some.inj ho; decide
        | 18, _ => obtain rfl := Option.some.inj ho; decide
        | 19, _ => obtain rfl := Option.some.inj ho; decide
        | 20, _ => obtain rfl := Option.some.inj ho; decide
        | 21, _ => obtain rfl := Option.some.inj ho; decide
        | 22, _ => obtain rfl := Option.some.inj ho; decide
        | 23, _ => obtain rfl := Option.some.inj ho; decide
        | 24, _ => obtain rfl := Option.some.inj ho; decide
        | 25, _ => obtain rfl := Option.some.inj ho; decide
        | 26, _ => obtain rfl := Option.some.inj ho; decide
        | 27, _ => obtain rfl := Option.some.inj ho; decide
        | 28, _ => obtain rfl := Option.some.inj ho; decide
        | 29, _ => obtain rfl := Option.some.inj ho; decide
        | 30, _ => obtain rfl := Option.some.inj ho; decide
        | 31, _ => obtain rfl := Option.some.inj ho; decide
        | 32, _ => obtain rfl := Option.some.inj ho; decide
        | 33, _ => obtain rfl := Option.some.inj ho; decide
        | 34, _ => obtain rfl := Option.some.inj ho; decide
        | 35, _ => obtain rfl := Option.some.inj ho; decide
        | 36, _ => obtain rfl := Option.some.inj ho; decide
        | 37, _ => obtain rfl := Option.some.inj ho; decide
        | 38, _ => obtain rfl := Option.some.inj ho; decide
        | 39, _ => obtain rfl := Option.some.inj ho; decide
        | 40, _ => obtain rfl := Option.some.inj ho; decide
        | 41, _ => obtain rfl := Option.some.inj ho; decide
      case hstep =>
        intro T1 hE L T W ix o hF hW hc ho hLi hd K hK
        have hN : T1.size = 160 := by rw [hE]; rfl
        have f4 : T.getD 4 undef = .pointer (some ⟨(w.heap.size) + 1, 0, none⟩) := (hF.old 4 (by decide)).trans (by rw [hE]; rfl)
        have f7 : T.getD 7 undef = .pointer (some ⟨g, 0, none⟩) := (hF.old 7 (by decide)).trans (by rw [hE]; rfl)
        have f11 : T.getD 11 undef = .pointer (some ⟨ga, 0, none⟩) := (hF.old 11 (by decide)).trans (by rw [hE]; rfl)
        have f12 : T.getD 12 undef = .int .i64 x1 := (hF.old 12 (by decide)).trans (by rw [hE]; rfl)
        clear hE
        replace hF := Lib.hid hF
        replace hW := Lib.hid hW
        replace hK := Lib.hid hK
        have hi := (List.getElem?_eq_some_iff.1 ho).1
        match ix, hi with
        | 0, _ =>
          obtain rfl := Option.some.inj ho
          clear hd ho hi hc hLi
          exact st_val (v := .pointer (some ⟨g, 0, none⟩)) (w' := W) (want_none rfl) (by unfold execOp; dsimp only [Act.eval]; simp only [f7]; go_simp) (hK.out _ _ (hF.out.put (k := 0) (s := 61) rfl (by decide) hN (by decide) (fun u_v hu => Option.some.inj (Option.some.inj (show some (some (.pointer (some ⟨g, 0, none⟩))) = some (some u_v) from hu))) (by dsimp only; rw [gd_ne (show 61 ≠ 88 by decide), gd_ne (show 61 ≠ 89 by decide), gd_ne (show 61 ≠ 100 by decide)]; exact hW.out)))
        | 1, _ =>
          obtain rfl := Option.some.inj ho
          clear hd ho hi hc hLi
          exact st_val (v := .pointer (some ⟨ga, 0, none⟩)) (w' := W) (want_none rfl) (by unfold execOp; dsimp only [Act.eval]; simp only [f11]; go_simp) (hK.out _ _ (hF.out.put (k := 1) (s := 62) rfl (by decide) hN (by decide) (fun u_v hu => Option.some.inj (Option.some.inj (show some (some (.pointer (some ⟨ga, 0, none⟩))) = some (some u_v) from hu))) (by dsimp only; rw [gd_ne (show 62 ≠ 88 by decide), gd_ne (show 62 ≠ 89 by decide), gd_ne (show 62 ≠ 100 by decide)]; exact hW.out)))
        | 2, _ =>
          obtain rfl := Option.some.inj ho
          clear hd ho hi hc hLi
          exact st_val (v := .pointer (some ⟨(w.heap.size) + 1, 0, none⟩)) (w' := W) (want_none rfl) (by unfold execOp; dsimp only [Act.eval]; simp only [f4]; go_simp) (hK.out _ _ (hF.out.put (k := 2) (s := 63) rfl (by decide) hN (by decide) (fun u_v hu => Option.some.inj (Option.some.inj (show some (some (.pointer (some ⟨(w.heap.size) + 1, 0, none⟩))) = some (some u_v) from hu))) (by dsimp only; rw [gd_ne (show 63 ≠ 88 by decide), gd_ne (show 63 ≠ 89 by decide), gd_ne (show 63 ≠ 100 by decide)]; exact hW.out)))
        | 3, _ =>
          obtain rfl := Option.some.inj ho
          have l2 : L 2 = true := dep_of hd (n := 2) (by decide)
          have e63 : T.getD 63 undef = .pointer (some ⟨(w.heap.size) + 1, 0, none⟩) := hF.out.val 2 63 _ l2 rfl rfl
          obtain ⟨Lc, hLc⟩ := hW.out
          have hcc := (hcl.out W hLc.1.below).2.2.2.1
          clear hLc
          clear hd ho hi hc hLi
          exact st_val (v := .string u) (w' := W) (want_none rfl) (by unfold execOp; dsimp only [Act.eval]; simp only [e63]; go_simp) (hK.out _ _ (hF.out.put (k := 3) (s := 64) rfl (by decide) hN (by decide) (fun u_v hu => Option.some.inj (Option.some.inj (show some (some (.string u)) = some (some u_v) from hu))) (by dsimp only; rw [gd_ne (show 64 ≠ 88 by decide), gd_ne (show 64 ≠ 89 by decide), gd_ne (show 64 ≠ 100 by decide)]; exact hW.out)))
        | 4, _ =>
          obtain rfl := Option.some.inj ho
          clear hd ho hi hc hLi
          exact st_val (v := .pointer (some ⟨(w.heap.size) + 1, 1, none⟩)) (w' := W) (want_none rfl) (by unfold execOp; dsimp only [Act.eval]; simp only [f4]; go_simp) (hK.out _ _ (hF.out.put (k := 4) (s := 65) rfl (by decide) hN (by decide) (fun u_v hu => Option.some.inj (Option.some.inj (show some (some (.pointer (some ⟨(w.heap.size) + 1, 1, none⟩))) = some (some u_v) from hu))) (by dsimp only; rw [gd_ne (show 65 ≠ 88 by decide), gd_ne (show 65 ≠ 89 by decide), gd_ne (show 65 ≠ 100 by decide)]; exact hW.out)))
        | 5, _ =>
          obtain rfl := Option.some.inj ho
          have l4 : L 4 = true := dep_of hd (n := 4) (by decide)
          have e65 : T.getD 65 undef = .pointer (some ⟨(w.heap.size) + 1, 1, none⟩) := hF.out.val 4 65 _ l4 rfl rfl
          obtain ⟨Lc, hLc⟩ := hW.out
          have hcc := (hcl.out W hLc.1.below).2.2.2.2
          clear hLc
          clear hd ho hi hc hLi
          exact st_val (v := .string s) (w' := W) (want_none rfl) (by unfold execOp; dsimp only [Act.eval]; simp only [e65]; go_simp) (hK.out _ _ (hF.out.put (k := 5) (s := 66) rfl (by decide) hN (by decide) (fun u_v hu => Option.some.inj (Option.some.inj (show some (some (.string s)) = some (some u_v) from hu))) (by dsimp only; rw [gd_ne (show 66 ≠ 88 by decide), gd_ne (show 66 ≠ 89 by decide), gd_ne (show 66 ≠ 100 by decide)]; exact hW.out)))
        | 6, _ =>
          obtain rfl := Option.some.inj ho
          clear hd ho hi hc hLi
          exact st_val (v := .int .i64 x1) (w' := W) (want_none rfl) (by unfold execOp; dsimp only [Act.eval]; simp only [f12]; go_simp) (hK.out _ _ (hF.out.put (k := 6) (s := 67) rfl (by decide) hN (by decide) (fun u_v hu => Option.some.inj (Option.some.inj (show some (some (.int .i64 x1)) = some (some u_v) from hu))) (by dsimp only; rw [gd_ne (show 67 ≠ 88 by decide), gd_ne (show 67 ≠ 89 by decide), gd_ne (show 67 ≠ 100 by decide)]; exact hW.out)))
        | 7, _ =>
          obtain rfl := Option.some.inj ho
          have l0 : L 0 = true := dep_of hd (n := 0) (by decide)
          have e61 : T.getD 61 undef = .pointer (some ⟨g, 0, none⟩) := hF.out.val 0 61 _ l0 rfl rfl
          have l1 : L 1 = true := dep_of hd (n := 1) (by decide)
          have e62 : T.getD 62 undef = .pointer (some ⟨ga, 0, none⟩) := hF.out.val 1 62 _ l1 rfl rfl
          have l3 : L 3 = true := dep_of hd (n := 3) (by decide)
          have e64 : T.getD 64 undef = .string u := hF.out.val 3 64 _ l3 rfl rfl
          have l5 : L 5 = true := dep_of hd (n := 5) (by decide)
          have e66 : T.getD 66 undef = .string s := hF.out.val 5 66 _ l5 rfl rfl
          have l6 : L 6 = true := dep_of hd (n := 6) (by decide)
          have e67 : T.getD 67 undef = .int .i64 x1 := hF.out.val 6 67 _ l6 rfl rfl
          obtain ⟨Lc, hLc⟩ := hW.out
          replace hLc := Lib.hid hLc
          have cc := Lib.hid (hasF_any _ x1 g u s W (hLc.out.1.noOwn x1 (by rw [hLc.out.2.1.1]; exact kind_key _)))
          clear hd ho hi hc hLi
          refine st_call (want_none rfl) (by unfold execOp; go_simp) cc.out ?_
          rintro r wz ⟨rfl, hb4⟩
          exact ⟨_, rfl, hK.out _ _ (hF.out.put (k := 7) (s := 68) rfl (by decide) hN (by decide) (fun u_v hu => Option.some.inj (Option.some.inj (show some (some (.bool false)) = some (some u_v) from hu))) (by dsimp only; rw [gd_ne (show 68 ≠ 88 by decide), gd_ne (show 68 ≠ 89 by decide), gd_ne (show 68 ≠ 100 by decide)]; exact ⟨Lc, hLc.out.1.keep hb4, hLc.out.2⟩))⟩
        | 8, _ =>
          obtain rfl := Option.some.inj ho
          have l7 : L 7 = true := dep_of hd (n := 7) (by decide)
          have e68 : T.getD 68 undef = .bool false := hF.out.val 7 68 _ l7 rfl rfl
          clear hd ho hi hc hLi
          exact st_val (v := .bool false) (w' := W) (want_none rfl) (by unfold execOp; dsimp only [Act.eval]; simp only [e68]; go_simp) (hK.out _ _ (hF.out.put (k := 8) (s := 69) rfl (by decide) hN (by decide) (fun u_v hu => Option.some.inj (Option.some.inj (show some (some (.bool false)) = some (some u_v) from hu))) (by dsimp only; rw [gd_ne (show 69 ≠ 88 by decide), gd_ne (show 69 ≠ 89 by decide), gd_ne (show 69 ≠ 100 by decide)]; exact hW.out)))
        | 9, _ =>
          obtain rfl := Option.some.inj ho
          have l8 : L 8 = true := dep_of hd (n := 8) (by decide)
          have e69 : T.getD 69 undef = .bool false := hF.out.val 8 69 _ l8 rfl rfl
          clear hd ho hi hc hLi
          exact st_val (v := .pointer (some ⟨g, 0, none⟩)) (w' := W) (by rw [want_some (j := 8) (s := 69) rfl rfl e69]; rfl) (by unfold execOp; dsimp only [Act.eval]; simp only [f7]; go_simp) (hK.out _ _ (hF.out.put (k := 9) (s := 70) rfl (by decide) hN (by decide) (fun u_v hu => Option.some.inj (Option.some.inj (show some (some (.pointer (some ⟨g, 0, none⟩))) = some (some u_v) from hu))) (by dsimp only; rw [gd_ne (show 70 ≠ 88 by decide), gd_ne (show 70 ≠ 89 by decide), gd_ne (show 70 ≠ 100 by decide)]; exact hW.out)))
        | 10, _ =>
          obtain rfl := Option.some.inj ho
          have l8 : L 8 = true := dep_of hd (n := 8) (by decide)
          have e69 : T.getD 69 undef = .bool false := hF.out.val 8 69 _ l8 rfl rfl
          clear hd ho hi hc hLi
          exact st_val (v := .pointer (some ⟨ga, 0, none⟩)) (w' := W) (by rw [want_some (j := 8) (s := 69) rfl rfl e69]; rfl) (by unfold execOp; dsimp only [Act.eval]; simp only [f11]; go_simp) (hK.out _ _ (hF.out.put (k := 10) (s := 71) rfl (by decide) hN (by decide) (fun u_v hu => Option.some.inj (Option.some.inj (show some (some (.pointer (some ⟨ga, 0, none⟩))) = some (some u_v) from hu))) (by dsimp only; rw [gd_ne (show 71 ≠ 88 by decide), gd_ne (show 71 ≠ 89 by decide), gd_ne (show 71 ≠ 100 by decide)]; exact hW.out)))
        | 11, _ =>
          obtain rfl := Option.some.inj ho
          have l8 : L 8 = true := dep_of hd (n := 8) (by decide)
          have e69 : T.getD 69 undef = .bool false := hF.out.val 8 69 _ l8 rfl rfl
          clear hd ho hi hc hLi
          exact st_val (v := .pointer (some ⟨(w.heap.size) + 1, 0, none⟩)) (w' := W) (by rw [want_some (j := 8) (s := 69) rfl rfl e69]; rfl) (by unfold execOp; dsimp only [Act.eval]; simp only [f4]; go_simp) (hK.out _ _ (hF.out.put (k := 11) (s := 72) rfl (by decide) hN (by decide) (fun u_v hu => Option.some.inj (Option.some.inj (show some (some (.pointer (some ⟨(w.heap.size) + 1, 0, none⟩))) = some (some u_v) from hu))) (by dsimp only; rw [gd_ne (show 72 ≠ 88 by decide), gd_ne (show 72 ≠ 89 by decide), gd_ne (show 72 ≠ 100 by decide)]; exact hW.out)))
        | 12, _ =>
          obtain rfl := Option.some.inj ho
          have l11 : L 11 = true := dep_of hd (n := 11) (by decide)
          have e72 : T.getD 72 undef = .pointer (some ⟨(w.heap.size) + 1, 0, none⟩) := hF.out.val 11 72 _ l11 rfl rfl
          have l8 : L 8 = true := dep_of hd (n := 8) (by decide)
          have e69 : T.getD 69 undef = .bool false := hF.out.val 8 69 _ l8 rfl rfl
          obtain ⟨Lc, hLc⟩ := hW.out
          have hcc := (hcl.out W hLc.1.below).2.2.2.1
          clear hLc
          clear hd ho hi hc hLi
          exact st_val (v := .string u) (w' := W) (by rw [want_some (j := 8) (s := 69) rfl rfl e69]; rfl) (by unfold execOp; dsimp only [Act.eval]; simp only [e72]; go_simp) (hK.out _ _ (hF.out.put (k := 12) (s := 73) rfl (by decide) hN (by decide) (fun u_v hu => Option.some.inj (Option.some.inj (show some (some (.string u)) = some (some u_v) from hu))) (by dsimp only; rw [gd_ne (show 73 ≠ 88 by decide), gd_ne (show 73 ≠ 89 by decide), gd_ne (show 73 ≠ 100 by decide)]; exact hW.out)))
        | 13, _ =>
          obtain rfl := Option.some.inj ho
          have l8 : L 8 = true := dep_of hd (n := 8) (by decide)
          have e69 : T.getD 69 undef = .bool false := hF.out.val 8 69 _ l8 rfl rfl
          clear hd ho hi hc hLi
          exact st_val (v := .pointer (some ⟨(w.heap.size) + 1, 1, none⟩)) (w' := W) (by rw [want_some (j := 8) (s := 69) rfl rfl e69]; rfl) (by unfold execOp; dsimp only [Act.eval]; simp only [f4]; go_simp) (hK.out _ _ (hF.out.put (k := 13) (s := 74) rfl (by decide) hN (by decide) (fun u_v hu => Option.some.inj (Option.some.inj (show some (some (.pointer (some ⟨(w.heap.size) + 1, 1, none⟩))) = some (some u_v) from hu))) (by dsimp only; rw [gd_ne (show 74 ≠ 88 by decide), gd_ne (show 74 ≠ 89 by decide), gd_ne (show 74 ≠ 100 by decide)]; exact hW.out)))
        | 14, _ =>
          obtain rfl := Option.some.inj ho
          have l13 : L 13 = true := dep_of hd (n := 13) (by decide)
          have e74 : T.getD 74 undef = .pointer (some ⟨(w.heap.size) + 1, 1, none⟩) := hF.out.val 13 74 _ l13 rfl rfl
          have l8 : L 8 = true := dep_of hd (n := 8) (by decide)
          have e69 : T.getD 69 undef = .bool false := hF.out.val 8 69 _ l8 rfl rfl
          obtain ⟨Lc, hLc⟩ := hW.out
          have hcc := (hcl.out W hLc.1.below).2.2.2.2
          clear hLc
          clear hd ho hi hc hLi
          exact st_val (v := .string s) (w' := W) (by rw [want_some (j := 8) (s := 69) rfl rfl e69]; rfl) (by unfold execOp; dsimp only [Act.eval]; simp only [e74]; go_simp) (hK.out _ _ (hF.out.put (k := 14) (s := 75) rfl (by decide) hN (by decide) (fun u_v hu => Option.some.inj (Option.some.inj (show some (some (.string s)) = some (some u_v) from hu))) (by dsimp only; rw [gd_ne (show 75 ≠ 88 by decide), gd_ne (show 75 ≠ 89 by decide), gd_ne (show 75 ≠ 100 by decide)]; exact hW.out)))
        | 15, _ =>
          obtain rfl := Option.some.inj ho
          have l9 : L 9 = true := dep_of hd (n := 9) (by decide)
          have e70 : T.getD 70 undef = .pointer (some ⟨g, 0, none⟩) := hF.out.val 9 70 _ l9 rfl rfl
          have l10 : L 10 = true := dep_of hd (n := 10) (by decide)
          have e71 : T.getD 71 undef = .pointer (some ⟨ga, 0, none⟩) := hF.out.val 10 71 _ l10 rfl rfl
          have l12 : L 12 = true := dep_of hd (n := 12) (by decide)
          have e73 : T.getD 73 undef = .string u := hF.out.val 12 73 _ l12 rfl rfl
          have l14 : L 14 = true := dep_of hd (n := 14) (by decide)
          have e75 : T.getD 75 undef = .string s := hF.out.val 14 75 _ l14 rfl rfl
          have l8 : L 8 = true := dep_of hd (n := 8) (by decide)
          have e69 : T.getD 69 undef = .bool false := hF.out.val 8 69 _ l8 rfl rfl
          obtain ⟨Lc, hLc⟩ := hW.out
          replace hLc := Lib.hid hLc
          have cc := Lib.hid (hasF_any _ (-1) g u s W (hLc.out.1.noOwn (-1) (by rw [get_neg (by decide)]; decide)))
          clear hd ho hi hc hLi
          refine st_call (by rw [want_some (j := 8) (s := 69) rfl rfl e69]; rfl) (by unfold execOp; go_simp) cc.out ?_
          rintro r wz ⟨rfl, hb4⟩
          exact ⟨_, rfl, hK.out _ _ (hF.out.put (k := 15) (s := 76) rfl (by decide) hN (by decide) (fun u_v hu => Option.some.inj (Option.some.inj (show some (some (.bool false)) = some (some u_v) from hu))) (by dsimp only; rw [gd_ne (show 76 ≠ 88 by decide), gd_ne (show 76 ≠ 89 by decide), gd_ne (show 76 ≠ 100 by decide)]; exact ⟨Lc, hLc.out.1.keep hb4, hLc.out.2⟩))⟩
        | 16, _ =>
          obtain rfl := Option.some.inj ho
          have l8 : L 8 = true := dep_of hd (n := 8) (by decide)
          have e69 : T.getD 69 undef = .bool false := hF.out.val 8 69 _ l8 rfl rfl
          have l15 : L 15 = true := dep_of hd (n := 15) (by decide)
          have e76 : T.getD 76 undef = .bool false := hF.out.val 15 76 _ l15 rfl rfl
          clear hd ho hi hc hLi
          exact st_val (v := .bool false) (w' := W) (want_none rfl) (by unfold execOp; dsimp only [Act.eval]; simp only [e69, e76]; go_simp) (hK.out _ _ (hF.out.put (k := 16) (s := 77) rfl (by decide) hN (by decide) (fun u_v hu => Option.some.inj (Option.some.inj (show some (some (.bool false)) = some (some u_v) from hu))) (by dsimp only; rw [gd_ne (show 77 ≠ 88 by decide), gd_ne (show 77 ≠ 89 by decide), gd_ne (show 77 ≠ 100 by decide)]; exact hW.out)))
        | 17, _ =>
          obtain rfl := Option.some.inj ho
          have l16 : L 16 = true := dep_of hd (n := 16) (by decide)
          have e77 : T.getD 77 undef = .bool false := hF.out.val 16 77 _ l16 rfl rfl
          clear hd ho hi hc hLi
          exact st_val (v := .bool false) (w' := W) (want_none rfl) (by unfold execOp; dsimp only [Act.eval]; simp only [e77]; go_simp) (hK.out _ _ (hF.out.put (k := 17) (s := 78) rfl (by decide) hN (by decide) (fun u_v hu => Option.some.inj (Option.some.inj (show some (some (.bool false)) = some (some u_v) from hu))) (by dsimp only; rw [gd_ne (show 78 ≠ 88 by decide), gd_ne (show 78 ≠ 89 by decide), gd_ne (show 78 ≠ 100 by decide)]; exact hW.out)))
        | 18, _ =>
          obtain rfl := Option.some.inj ho
          have l17 : L 17 = true := dep_of hd (n := 17) (by decide)
          have e78 : T.getD 78 undef = .bool false := hF.out.val 17 78 _ l17 rfl rfl
          clear hd ho hi hc hLi
          exact st_val (v := .pointer (some ⟨g, 0, none⟩)) (w' := W) (by rw [want_some (j := 17) (s := 78) rfl rfl e78]; rfl) (by unfold execOp; dsimp only [Act.eval]; simp only [f7]; go_simp) (hK.out _ _ (hF.out.put (k := 18) (s := 79) rfl (by decide) hN (by decide) (fun u_v hu => Option.some.inj (Option.some.inj (show some (some (.pointer (some ⟨g, 0, none⟩))) = some (some u_v) from hu))) (by dsimp only; rw [gd_ne (show 79 ≠ 88 by decide), gd_ne (show 79 ≠ 89 by decide), gd_ne (show 79 ≠ 100 by decide)]; exact hW.out)))
        | 19, _ =>
          obtain rfl := Option.some.inj ho
          have l17 : L 17 = true := dep_of hd (n := 17) (by decide)
          have e78 : T.getD 78 undef = .bool false := hF.out.val 17 78 _ l17 rfl rfl
          clear hd ho hi hc hLi
          exact st_val (v := .pointer (some ⟨ga, 0, none⟩)) (w' := W) (by rw [want_some (j := 17) (s := 78) rfl rfl e78]; rfl) (by unfold execOp; dsimp only [Act.eval]; simp only [f11]; go_simp) (hK.out _ _ (hF.out.put (k := 19) (s := 80) rfl (by decide) hN (by decide) (fun u_v hu => Option.some.inj (Option.some.inj (show some (some (.pointer (some ⟨ga, 0, none⟩))) = some (some u_v) from hu))) (by dsimp only; rw [gd_ne (show 80 ≠ 88 by decide), gd_ne (show 80 ≠ 89 by decide), gd_ne (show 80 ≠ 100 by decide)]; exact hW.out)))
        | 20, _ =>
          obtain rfl := Option.some.inj ho
          have l17 : L 17 = true := dep_of hd (n := 17) (by decide)
          have e78 : T.getD 78 undef = .bool false := hF.out.val 17 78 _ l17 rfl rfl
          clear hd ho hi hc hLi
          exact st_val (v := .pointer (some ⟨(w.heap.size) + 1, 0, none⟩)) (w' := W) (by rw [want_some (j := 17) (s := 78) rfl rfl e78]; rfl) (by unfold execOp; dsimp only [Act.eval]; simp only [f4]; go_simp) (hK.out _ _ (hF.out.put (k := 20) (s := 81) rfl (by decide) hN (by decide) (fun u_v hu => Option.some.inj (Option.some.inj (show some (some (.pointer (some ⟨(w.heap.size) + 1, 0, none⟩))) = some (some u_v) from hu))) (by dsimp only; rw [gd_ne (show 81 ≠ 88 by decide), gd_ne (show 81 ≠ 89 by decide), gd_ne (show 81 ≠ 100 by decide)]; exact hW.out)))
        | 21, _ =>
          obtain rfl := Option.some.inj ho
          have l20 : L 20 = true := dep_of hd (n := 20) (by decide)
          have e81 : T.getD 81 undef = .pointer (some ⟨(w.heap.size) + 1, 0, none⟩) := hF.out.val 20 81 _ l20 rfl rfl
          have l17 : L 17 = true := dep_of hd (n := 17) (by decide)
          have e78 : T.getD 78 undef = .bool false := hF.out.val 17 78 _ l17 rfl rfl
          obtain ⟨Lc, hLc⟩ := hW.out
          have hcc := (hcl.out W hLc.1.below).2.2.2.1
          clear hLc
          clear hd ho hi hc hLi
          exact st_val (v := .string u) (w' := W) (by rw [want_some (j := 17) (s := 78) rfl rfl e78]; rfl) (by unfold execOp; dsimp only [Act.eval]; simp only [e81]; go_simp) (hK.out _ _ (hF.out.put (k := 21) (s := 82) rfl (by decide) hN (by decide) (fun u_v hu => Option.some.inj (Option.some.inj (show some (some (.string u)) = some (some u_v) from hu))) (by dsimp only; rw [gd_ne (show 82 ≠ 88 by decide), gd_ne (show 82 ≠ 89 by decide), gd_ne (show 82 ≠ 100 by decide)]; exact hW.out)))
        | 22, _ =>
          obtain rfl := Option.some.inj ho
          have l17 : L 17 = true := dep_of hd (n := 17) (by decide)
          have e78 : T.getD 78 undef = .bool false := hF.out.val 17 78 _ l17 rfl rfl
          clear hd ho hi hc hLi
          exact st_val (v := .pointer (some ⟨(w.heap.size) + 1, 1, none⟩)) (w' := W) (by rw [want_some (j := 17) (s := 78) rfl rfl e78]; rfl) (by unfold execOp; dsimp only [Act.eval]; simp only [f4]; go_simp) (hK.out _ _ (hF.out.put (k := 22) (s := 83) rfl (by decide) hN (by decide) (fun u_v hu => Option.some.inj (Option.some.inj (show some (some (.pointer (some ⟨(w.heap.size) + 1, 1, none⟩))) = some (some u_v) from hu))) (by dsimp only; rw [gd_ne (show 83 ≠ 88 by decide), gd_ne (show 83 ≠ 89 by decide), gd_ne (show 83 ≠ 100 by decide)]; exact hW.out)))
        | 23, _ =>
          obtain rfl := Option.some.inj ho
          have l22 : L 22 = true := dep_of hd (n := 22) (by decide)
          have e83 : T.getD 83 undef = .pointer (some ⟨(w.heap.size) + 1, 1, none⟩) := hF.out.val 22 83 _ l22 rfl rfl
          have l17 : L 17 = true := dep_of hd (n := 17) (by decide)
          have e78 : T.getD 78 undef = .bool false := hF.out.val 17 78 _ l17 rfl rfl
          obtain ⟨Lc, hLc⟩ := hW.out
          have hcc := (hcl.out W hLc.1.below).2.2.2.2
          clear hLc
          clear hd ho hi hc hLi
          exact st_val (v := .string s) (w' := W) (by rw [want_some (j := 17) (s := 78) rfl rfl e78]; rfl) (by unfold execOp; dsimp only [Act.eval]; simp only [e83]; go_simp) (hK.out _ _ (hF.out.put (k := 23) (s := 84) rfl (by decide) hN (by decide) (fun u_v hu => Option.some.inj (Option.some.inj (show some (some (.string s)) = some (some u_v) from hu))) (by dsimp only; rw [gd_ne (show 84 ≠ 88 by decide), gd_ne (show 84 ≠ 89 by decide), gd_ne (show 84 ≠ 100 by decide)]; exact hW.out)))
        | 24, _ =>
          obtain rfl := Option.some.inj ho
          have l17 : L 17 = true := dep_of hd (n := 17) (by decide)
          have e78 : T.getD 78 undef = .bool false := hF.out.val 17 78 _ l17 rfl rfl
          clear hd ho hi hc hLi
          exact st_val (v := .pointer (some ⟨ga, 0, none⟩)) (w' := W) (by rw [want_some (j := 17) (s := 78) rfl rfl e78]; rfl) (by unfold execOp; dsimp only [Act.eval]; simp only [f11]; go_simp) (hK.out _ _ (hF.out.put (k := 24) (s := 85) rfl (by decide) hN (by decide) (fun u_v hu => Option.some.inj (Option.some.inj (show some (some (.pointer (some ⟨ga, 0, none⟩))) = some (some u_v) from hu))) (by dsimp only; rw [gd_ne (show 85 ≠ 88 by decide), gd_ne (show 85 ≠ 89 by decide), gd_ne (show 85 ≠ 100 by decide)]; exact hW.out)))
        | 25, _ =>
          obtain rfl := Option.some.inj ho
          have l17 : L 17 = true := dep_of hd (n := 17) (by decide)
          have e78 : T.getD 78 undef = .bool false := hF.out.val 17 78 _ l17 rfl rfl
          clear hd ho hi hc hLi
          exact st_val (v := .pointer (some ⟨ga, 0, none⟩)) (w' := W) (by rw [want_some (j := 17) (s := 78) rfl rfl e78]; rfl) (by unfold execOp; dsimp only [Act.eval]; simp only [f11]; go_simp) (hK.out _ _ (hF.out.put (k := 25) (s := 86) rfl (by decide) hN (by decide) (fun u_v hu => Option.some.inj (Option.some.inj (show some (some (.pointer (some ⟨ga, 0, none⟩))) = some (some u_v) from hu))) (by dsimp only; rw [gd_ne (show 86 ≠ 88 by decide), gd_ne (show 86 ≠ 89 by decide), gd_ne (show 86 ≠ 100 by decide)]; exact hW.out)))
        | 26, _ =>
          obtain rfl := Option.some.inj ho
          have l17 : L 17 = true := dep_of hd (n := 17) (by decide)
          have e78 : T.getD 78 undef = .bool false := hF.out.val 17 78 _ l17 rfl rfl
          clear hd ho hi hc hLi
          exact st_val (v := .int .i64 x1) (w' := W) (by rw [want_some (j := 17) (s := 78) rfl rfl e78]; rfl) (by unfold execOp; dsimp only [Act.eval]; simp only [f12]; go_simp) (hK.out _ _ (hF.out.put (k := 26) (s := 87) rfl (by decide) hN (by decide) (fun u_v hu => Option.some.inj (Option.some.inj (show some (some (.int .i64 x1)) = some (some u_v) from hu))) (by dsimp only; rw [gd_ne (show 87 ≠ 88 by decide), gd_ne (show 87 ≠ 89 by decide), gd_ne (show 87 ≠ 100 by decide)]; exact hW.out)))
        | 27, _ =>
          obtain rfl := Option.some.inj ho
          have l25 : L 25 = true := dep_of hd (n := 25) (by decide)
          have e86 : T.getD 86 undef = .pointer (some ⟨ga, 0, none⟩) := hF.out.val 25 86 _ l25 rfl rfl
          have l26 : L 26 = true := dep_of hd (n := 26) (by decide)
          have e87 : T.getD 87 undef = .int .i64 x1 := hF.out.val 26 87 _ l26 rfl rfl
          have l17 : L 17 = true := dep_of hd (n := 17) (by decide)
          have e78 : T.getD 78 undef = .bool false := hF.out.val 17 78 _ l17 rfl rfl
          obtain ⟨Lc, hLc⟩ := hW.out
          replace hLc := Lib.hid hLc
          have cc := Lib.hid (hLc.out.1.pub (by have := hLc.out.2.2.1; have := Bool.toNat_le (L 27); have := Bool.toNat_le (L 28); have := Bool.toNat_le (L 39); omega) x1)
          clear hd ho hi hc
          refine st_call (by rw [want_some (j := 17) (s := 78) rfl rfl e78]; rfl) (by unfold execOp; go_simp) cc.out ?_
          rintro r wz ⟨L', x', rfl, a1, a2, a3, -, -, -⟩
          exact ⟨_, rfl, hK.out _ _ (hF.out.put (k := 27) (s := 88) rfl (by decide) hN (by decide) (fun u hu => by cases hu) ⟨L', a1, hLc.out.2.1.grow a2, (by have h1 := a2.len.2; have h2 := hLc.out.2.2.1; have h3 : (L 27).toNat = 0 := (by rw [hLi]; rfl); show L'.length ≤ 1 + 1 + (L 28).toNat + (L 39).toNat; omega), fun _ _ => ⟨x', gd_eq (by rw [hF.out.size, hN]; decide)⟩, (fun h1 h2 => by obtain ⟨x, o, e, mm⟩ := hLc.out.2.2.2.2.1 h1 h2; exact ⟨x, o, (gd_ne (show 88 ≠ 89 by decide)).trans e, mm.grow a2⟩), (fun h1 h2 => by obtain ⟨x, e⟩ := hLc.out.2.2.2.2.2 h1 h2; exact ⟨x, (gd_ne (show 88 ≠ 100 by decide)).trans e⟩)⟩)⟩
        | 28, _ =>
          obtain rfl := Option.some.inj ho
          have l24 : L 24 = true := dep_of hd (n := 24) (by decide)
          have e85 : T.getD 85 undef = .pointer (some ⟨ga, 0, none⟩) := hF.out.val 24 85 _ l24 rfl rfl
          have l27 : L 27 = true := dep_of hd (n := 27) (by decide)
          have l17 : L 17 = true := dep_of hd (n := 17) (by decide)
          have e78 : T.getD 78 undef = .bool false := hF.out.val 17 78 _ l17 rfl rfl
          obtain ⟨Lc, hLc⟩ := hW.out
          replace hLc := Lib.hid hLc
          obtain ⟨x88, e88⟩ := hLc.out.2.2.2.1 l27 hLi
          have cc := Lib.hid (hLc.out.1.hash (by have := hLc.out.2.2.1; have := Bool.toNat_le (L 27); have := Bool.toNat_le (L 28); have := Bool.toNat_le (L 39); omega) x88)
          clear hd ho hi hc
          refine st_call (by rw [want_some (j := 17) (s := 78) rfl rfl e78]; rfl) (by unfold execOp; go_simp) cc.out ?_
          rintro r wz ⟨L', x', rfl, a1, a2, a3, -, -, -⟩
          exact ⟨_, rfl, hK.out _ _ (hF.out.put (k := 28) (s := 89) rfl (by decide) hN (by decide) (fun u hu => by cases hu) ⟨L', a1, hLc.out.2.1.grow a2, (by have h1 := a2.len.2; have h2 := hLc.out.2.2.1; have h3 : (L 28).toNat = 0 := (by rw [hLi]; rfl); show L'.length ≤ 1 + (L 27).toNat + 1 + (L 39).toNat; omega), fun _ h => absurd h (by simp), fun _ _ => ⟨x', _, gd_eq (by rw [hF.out.size, hN]; decide), a3⟩, (fun h1 h2 => by obtain ⟨x, e⟩ := hLc.out.2.2.2.2.2 h1 h2; exact ⟨x, (gd_ne (show 89 ≠ 100 by decide)).trans e⟩)⟩)⟩
        | 29, _ =>
          obtain rfl := Option.some.inj ho
          have l18 : L 18 = true := dep_of hd (n := 18) (by decide)
          have e79 : T.getD 79 undef = .pointer (some ⟨g, 0, none⟩) := hF.out.val 18 79 _ l18 rfl rfl
          have l19 : L 19 = true := dep_of hd (n := 19) (by decide)
          have e80 : T.getD 80 undef = .pointer (some ⟨ga, 0, none⟩) := hF.out.val 19 80 _ l19 rfl rfl
          have l21 : L 21 = true := dep_of hd (n := 21) (by decide)
          have e82 : T.getD 82 undef = .string u := hF.out.val 21 82 _ l21 rfl rfl
          have l23 : L 23 = true := dep_of hd (n := 23) (by decide)
          have e84 : T.getD 84 undef = .string s := hF.out.val 23 84 _ l23 rfl rfl
          have l28 : L 28 = true := dep_of hd (n := 28) (by decide)
          have l17 : L 17 = true := dep_of hd (n := 17) (by decide)
          have e78 : T.getD 78 undef = .bool false := hF.out.val 17 78 _ l17 rfl rfl
          obtain ⟨Lc, hLc⟩ := hW.out
          replace hLc := Lib.hid hLc
          obtain ⟨x89, o89, e89, m89⟩ := hLc.out.2.2.2.2.1 l28 hLi
          have cc := Lib.hid (hasF_any _ x89 g u s W (hLc.out.1.noOwn x89 (by rw [m89.1]; exact kind_hash _)))
          clear m89
          clear hd ho hi hc
          refine st_call (by rw [want_some (j := 17) (s := 78) rfl rfl e78]; rfl) (by unfold execOp; go_simp) cc.out ?_
          rintro r wz ⟨rfl, hb4⟩
          exact ⟨_, rfl, hK.out _ _ (hF.out.put (k := 29) (s := 90) rfl (by decide) hN (by decide) (fun u_v hu => Option.some.inj (Option.some.inj (show some (some (.bool false)) = some (some u_v) from hu))) ⟨Lc, hLc.out.1.keep hb4, hLc.out.2.1, hLc.out.2.2.1, (fun h1 h2 => by obtain ⟨x, e⟩ := hLc.out.2.2.2.1 h1 h2; exact ⟨x, (gd_ne (show 90 ≠ 88 by decide)).trans e⟩), fun _ h => absurd h (by simp), (fun h1 h2 => by obtain ⟨x, e⟩ := hLc.out.2.2.2.2.2 h1 h2; exact ⟨x, (gd_ne (show 90 ≠ 100 by decide)).trans e⟩)⟩)⟩
        | 30, _ =>
          obtain rfl := Option.some.inj ho
          have l17 : L 17 = true := dep_of hd (n := 17) (by decide)
          have e78 : T.getD 78 undef = .bool false := hF.out.val 17 78 _ l17 rfl rfl
          have l29 : L 29 = true := dep_of hd (n := 29) (by decide)
          have e90 : T.getD 90 undef = .bool false := hF.out.val 29 90 _ l29 rfl rfl
          clear hd ho hi hc hLi
          exact st_val (v := .bool false) (w' := W) (want_none rfl) (by unfold execOp; dsimp only [Act.eval]; simp only [e78, e90]; go_simp) (hK.out _ _ (hF.out.put (k := 30) (s := 91) rfl (by decide) hN (by decide) (fun u_v hu => Option.some.inj (Option.some.inj (show some (some (.bool false)) = some (some u_v) from hu))) (by dsimp only; rw [gd_ne (show 91 ≠ 88 by decide), gd_ne (show 91 ≠ 89 by decide), gd_ne (show 91 ≠ 100 by decide)]; exact hW.out)))
        | 31, _ =>
          obtain rfl := Option.some.inj ho
          have l30 : L 30 = true := dep_of hd (n := 30) (by decide)
          have e91 : T.getD 91 undef = .bool false := hF.out.val 30 91 _ l30 rfl rfl
          clear hd ho hi hc hLi
          exact st_val (v := .bool false) (w' := W) (want_none rfl) (by unfold execOp; dsimp only [Act.eval]; simp only [e91]; go_simp) (hK.out _ _ (hF.out.put (k := 31) (s := 92) rfl (by decide) hN (by decide) (fun u_v hu => Option.some.inj (Option.some.inj (show some (some (.bool false)) = some (some u_v) from hu))) (by dsimp only; rw [gd_ne (show 92 ≠ 88 by decide), gd_ne (show 92 ≠ 89 by decide), gd_ne (show 92 ≠ 100 by decide)]; exact hW.out)))
        | 32, _ =>
          obtain rfl := Option.some.inj ho
          have l31 : L 31 = true := dep_of hd (n := 31) (by decide)
          have e92 : T.getD 92 undef = .bool false := hF.out.val 31 92 _ l31 rfl rfl
          clear hd ho hi hc hLi
          exact st_val (v := .pointer (some ⟨g, 0, none⟩)) (w' := W) (by rw [want_some (j := 31) (s := 92) rfl rfl e92]; rfl) (by unfold execOp; dsimp only [Act.eval]; simp only [f7]; go_simp) (hK.out _ _ (hF.out.put (k := 32) (s := 93) rfl (by decide) hN (by decide) (fun u_v hu => Option.some.inj (Option.some.inj (show some (some (.pointer (some ⟨g, 0, none⟩))) = some (some u_v) from hu))) (by dsimp only; rw [gd_ne (show 93 ≠ 88 by decide), gd_ne (show 93 ≠ 89 by decide), gd_ne (show 93 ≠ 100 by decide)]; exact hW.out)))
        | 33, _ =>
          obtain rfl := Option.some.inj ho
          have l31 : L 31 = true := dep_of hd (n := 31) (by decide)
          have e92 : T.getD 92 undef = .bool false := hF.out.val 31 92 _ l31 rfl rfl
          clear hd ho hi hc hLi
          exact st_val (v := .pointer (some ⟨(w.heap.size) + 1, 0, none⟩)) (w' := W) (by rw [want_some (j := 31) (s := 92) rfl rfl e92]; rfl) (by unfold execOp; dsimp only [Act.eval]; simp only [f4]; go_simp) (hK.out _ _ (hF.out.put (k := 33) (s := 94) rfl (by decide) hN (by decide) (fun u_v hu => Option.some.inj (Option.some.inj (show some (some (.pointer (some ⟨(w.heap.size) + 1, 0, none⟩))) = some (some u_v) from hu))) (by dsimp only; rw [gd_ne (show 94 ≠ 88 by decide), gd_ne (show 94 ≠ 89 by decide), gd_ne (show 94 ≠ 100 by decide)]; exact hW.out)))
        | 34, _ =>
          obtain rfl := Option.some.inj ho
          have l33 : L 33 = true := dep_of hd (n := 33) (by decide)
          have e94 : T.getD 94 undef = .pointer (some ⟨(w.heap.size) + 1, 0, none⟩) := hF.out.val 33 94 _ l33 rfl rfl
          have l31 : L 31 = true := dep_of hd (n := 31) (by decide)
          have e92 : T.getD 92 undef = .bool false := hF.out.val 31 92 _ l31 rfl rfl
          obtain ⟨Lc, hLc⟩ := hW.out
          have hcc := (hcl.out W hLc.1.below).2.2.2.1
          clear hLc
          clear hd ho hi hc hLi
          exact st_val (v := .string u) (w' := W) (by rw [want_some (j := 31) (s := 92) rfl rfl e92]; rfl) (by unfold execOp; dsimp only [Act.eval]; simp only [e94]; go_simp) (hK.out _ _ (hF.out.put (k := 34) (s := 95) rfl (by decide) hN (by decide) (fun u_v hu => Option.some.inj (Option.some.inj (show some (some (.string u)) = some (some u_v) from hu))) (by dsimp only; rw [gd_ne (show 95 ≠ 88 by decide), gd_ne (show 95 ≠ 89 by decide), gd_ne (show 95 ≠ 100 by decide)]; exact hW.out)))
        | 35, _ =>
          obtain rfl := Option.some.inj ho
          have l31 : L 31 = true := dep_of hd (n := 31) (by decide)
          have e92 : T.getD 92 undef = .bool false := hF.out.val 31 92 _ l31 rfl rfl
          clear hd ho hi hc hLi
          exact st_val (v := .pointer (some ⟨(w.heap.size) + 1, 1, none⟩)) (w' := W) (by rw [want_some (j := 31) (s := 92) rfl rfl e92]; rfl) (by unfold execOp; dsimp only [Act.eval]; simp only [f4]; go_simp) (hK.out _ _ (hF.out.put (k := 35) (s := 96) rfl (by decide) hN (by decide) (fun u_v hu => Option.some.inj (Option.some.inj (show some (some (.pointer (some ⟨(w.heap.size) + 1, 1, none⟩))) = some (some u_v) from hu))) (by dsimp only; rw [gd_ne (show 96 ≠ 88 by decide), gd_ne (show 96 ≠ 89 by decide), gd_ne (show 96 ≠ 100 by decide)]; exact hW.out)))
        | 36, _ =>
          obtain rfl := Option.some.inj ho
          have l35 : L 35 = true := dep_of hd (n := 35) (by decide)
          have e96 : T.getD 96 undef = .pointer (some ⟨(w.heap.size) + 1, 1, none⟩) := hF.out.val 35 96 _ l35 rfl rfl
          have l31 : L 31 = true := dep_of hd (n := 31) (by decide)
          have e92 : T.getD 92 undef = .bool false := hF.out.val 31 92 _ l31 rfl rfl
          obtain ⟨Lc, hLc⟩ := hW.out
          have hcc := (hcl.out W hLc.1.below).2.2.2.2
          clear hLc
          clear hd ho hi hc hLi
          exact st_val (v := .string s) (w' := W) (by rw [want_some (j := 31) (s := 92) rfl rfl e92]; rfl) (by unfold execOp; dsimp only [Act.eval]; simp only [e96]; go_simp) (hK.out _ _ (hF.out.put (k := 36) (s := 97) rfl (by decide) hN (by decide) (fun u_v hu => Option.some.inj (Option.some.inj (show some (some (.string s)) = some (some u_v) from hu))) (by dsimp only; rw [gd_ne (show 97 ≠ 88 by decide), gd_ne (show 97 ≠ 89 by decide), gd_ne (show 97 ≠ 100 by decide)]; exact hW.out)))
        | 37, _ =>
          obtain rfl := Option.some.inj ho
          have l31 : L 31 = true := dep_of hd (n := 31) (by decide)
          have e92 : T.getD 92 undef = .bool false := hF.out.val 31 92 _ l31 rfl rfl
          clear hd ho hi hc hLi
          exact st_val (v := .pointer (some ⟨ga, 0, none⟩)) (w' := W) (by rw [want_some (j := 31) (s := 92) rfl rfl e92]; rfl) (by unfold execOp; dsimp only [Act.eval]; simp only [f11]; go_simp) (hK.out _ _ (hF.out.put (k := 37) (s := 98) rfl (by decide) hN (by decide) (fun u_v hu => Option.some.inj (Option.some.inj (show some (some (.pointer (some ⟨ga, 0, none⟩))) = some (some u_v) from hu))) (by dsimp only; rw [gd_ne (show 98 ≠ 88 by decide), gd_ne (show 98 ≠ 89 by decide), gd_ne (show 98 ≠ 100 by decide)]; exact hW.out)))
        | 38, _ =>
          obtain rfl := Option.some.inj ho
          have l31 : L 31 = true := dep_of hd (n := 31) (by decide)
          have e92 : T.getD 92 undef = .bool false := hF.out.val 31 92 _ l31 rfl rfl
          clear hd ho hi hc hLi
          exact st_val (v := .int .i64 x1) (w' := W) (by rw [want_some (j := 31) (s := 92) rfl rfl e92]; rfl) (by unfold execOp; dsimp only [Act.eval]; simp only [f12]; go_simp) (hK.out _ _ (hF.out.put (k := 38) (s := 99) rfl (by decide) hN (by decide) (fun u_v hu => Option.some.inj (Option.some.inj (show some (some (.int .i64 x1)) = some (some u_v) from hu))) (by dsimp only; rw [gd_ne (show 99 ≠ 88 by decide), gd_ne (show 99 ≠ 89 by decide), gd_ne (show 99 ≠ 100 by decide)]; exact hW.out)))
        | 39, _ =>
          obtain rfl := Option.some.inj ho
          have l37 : L 37 = true := dep_of hd (n := 37) (by decide)
          have e98 : T.getD 98 undef = .pointer (some ⟨ga, 0, none⟩) := hF.out.val 37 98 _ l37 rfl rfl
          have l38 : L 38 = true := dep_of hd (n := 38) (by decide)
          have e99 : T.getD 99 undef = .int .i64 x1 := hF.out.val 38 99 _ l38 rfl rfl
          have l31 : L 31 = true := dep_of hd (n := 31) (by decide)
          have e92 : T.getD 92 undef = .bool false := hF.out.val 31 92 _ l31 rfl rfl
          obtain ⟨Lc, hLc⟩ := hW.out
          replace hLc := Lib.hid hLc
          have cc := Lib.hid (hLc.out.1.pub (by have := hLc.out.2.2.1; have := Bool.toNat_le (L 27); have := Bool.toNat_le (L 28); have := Bool.toNat_le (L 39); omega) x1)
          clear hd ho hi hc
          refine st_call (by rw [want_some (j := 31) (s := 92) rfl rfl e92]; rfl) (by unfold execOp; go_simp) cc.out ?_
          rintro r wz ⟨L', x', rfl, a1, a2, a3, -, -, -⟩
          exact ⟨_, rfl, hK.out _ _ (hF.out.put (k := 39) (s := 100) rfl (by decide) hN (by decide) (fun u hu => by cases hu) ⟨L', a1, hLc.out.2.1.grow a2, (by have h1 := a2.len.2; have h2 := hLc.out.2.2.1; have h3 : (L 39).toNat = 0 := (by rw [hLi]; rfl); show L'.length ≤ 1 + (L 27).toNat + (L 28).toNat + 1; omega), (fun h1 h2 => by obtain ⟨x, e⟩ := hLc.out.2.2.2.1 h1 h2; exact ⟨x, (gd_ne (show 100 ≠ 88 by decide)).trans e⟩), (fun h1 h2 => by obtain ⟨x, o, e, mm⟩ := hLc.out.2.2.2.2.1 h1 h2; exact ⟨x, o, (gd_ne (show 100 ≠ 89 by decide)).trans e, mm.grow a2⟩), fun _ _ => ⟨x', gd_eq (by rw [hF.out.size, hN]; decide)⟩⟩)⟩
        | 40, _ =>
          obtain rfl := Option.some.inj ho
          have l32 : L 32 = true := dep_of hd (n := 32) (by decide)
          have e93 : T.getD 93 undef = .pointer (some ⟨g, 0, none⟩) := hF.out.val 32 93 _ l32 rfl rfl
          have l34 : L 34 = true := dep_of hd (n := 34) (by decide)
          have e95 : T.getD 95 undef = .string u := hF.out.val 34 95 _ l34 rfl rfl
          have l36 : L 36 = true := dep_of hd (n := 36) (by decide)
          have e97 : T.getD 97 undef = .string s := hF.out.val 36 97 _ l36 rfl rfl
          have l39 : L 39 = true := dep_of hd (n := 39) (by decide)
          have l31 : L 31 = true := dep_of hd (n := 31) (by decide)
          have e92 : T.getD 92 undef = .bool false := hF.out.val 31 92 _ l31 rfl rfl
          obtain ⟨Lc, hLc⟩ := hW.out
          replace hLc := Lib.hid hLc
          obtain ⟨x100, e100⟩ := hLc.out.2.2.2.2.2 l39 hLi
          have cc := Lib.hid (hasF_any _ x100 g u s W (owner_nil x100 W))
          clear hd ho hi hc
          refine st_call (by rw [want_some (j := 31) (s := 92) rfl rfl e92]; rfl) (by unfold execOp; go_simp) cc.out ?_
          rintro r wz ⟨rfl, hb4⟩
          exact ⟨_, rfl, hK.out _ _ (hF.out.put (k := 40) (s := 101) rfl (by decide) hN (by decide) (fun u_v hu => Option.some.inj (Option.some.inj (show some (some (.bool false)) = some (some u_v) from hu))) ⟨Lc, hLc.out.1.keep hb4, hLc.out.2.1, hLc.out.2.2.1, (fun h1 h2 => by obtain ⟨x, e⟩ := hLc.out.2.2.2.1 h1 h2; exact ⟨x, (gd_ne (show 101 ≠ 88 by decide)).trans e⟩), (fun h1 h2 => by obtain ⟨x, o, e, mm⟩ := hLc.out.2.2.2.2.1 h1 h2; exact ⟨x, o, (gd_ne (show 101 ≠ 89 by decide)).trans e, mm⟩), fun _ h => absurd h (by simp)⟩)⟩
        | 41, _ =>
          obtain rfl := Option.some.inj ho
          have l31 : L 31 = true := dep_of hd (n := 31) (by decide)
          have e92 : T.getD 92 undef = .bool false := hF.out.val 31 92 _ l31 rfl rfl
          have l40 : L 40 = true := dep_of hd (n := 40) (by decide)
          have e101 : T.getD 101 undef = .bool false := hF.out.val 40 101 _ l40 rfl rfl
          clear hd ho hi hc hLi
          exact st_val (v := .bool false) (w' := W) (want_none rfl) (by unfold execOp; dsimp only [Act.eval]; simp only [e92, e101]; go_simp) (hK.out _ _ (hF.out.put (k := 41) (s := 102) rfl (by decide) hN (by decide) (fun u_v hu => Option.some.inj (Option.some.inj (show some (some (.bool false)) = some (some u_v) from hu))) (by dsimp only; rw [gd_ne (show 102 ≠ 88 by decide), gd_ne (show 102 ≠ 89 by decide), gd_ne (show 102 ≠ 100 by decide)]; exact hW.out)))
      case hdone =>
        intro L T W2 hF hW hall
        obtain ⟨y88, h88⟩ : ∃ x, T.getD 88 undef = x := ⟨_, rfl⟩
        obtain ⟨y89, h89⟩ : ∃ x, T.getD 89 undef = x := ⟨_, rfl⟩
        obtain ⟨y100, h100⟩ : ∃ x, T.getD 100 undef = x := ⟨_, rfl⟩
        obtain ⟨L9, hS9, hM9, hl9, -⟩ := hW
        have hL9 := Lib.hid (show L9.length ≤ 4 by have := Bool.toNat_le (L 27); have := Bool.toNat_le (L 28); have := Bool.toNat_le (L 39); omega)
        replace hS9 := Lib.hid hS9
        replace hM9 := Lib.hid hM9
        clear hl9
        have hT : T = #[.agg #[.slice A n c, .slice B m d, .int .i64 l], .agg #[.string u, .string s], .int .i64 who, .pointer (some ⟨(w.heap.size), 0, none⟩), .pointer (some ⟨(w.heap.size) + 1, 0, none⟩), undef, .bool false, .pointer (some ⟨g, 0, none⟩), .nilIface, undef, undef, .pointer (some ⟨ga, 0, none⟩), .int .i64 x1, undef, .agg #[.slice A n c, .slice B m d, .int .i64 l], .bool true, .bool false, .bool false, .pointer (some ⟨(w.heap.size) + 1, 0, none⟩), .string u, .int .i64 u.size, .bool false, .bool false, .bool false, .pointer (some ⟨(w.heap.size) + 1, 1, none⟩), .string s, .int .i64 s.size, .bool false, .bool false, undef, .tuple #[.pointer (some ⟨g, 0, none⟩), .nilIface], .pointer (some ⟨(w.heap.size), 0, none⟩), .slice A n c, .pointer (some ⟨(w.heap.size), 1, none⟩), .slice B m d, .pointer (some ⟨(w.heap.size), 2, none⟩), .int .i64 l, .tuple #[.pointer (some ⟨g, 0, none⟩), .nilIface], .pointer (some ⟨g, 0, none⟩), .nilIface, .nilIface, .bool false, undef, undef, undef, undef, undef, undef, undef, undef, undef, undef, undef, undef, undef, undef, undef, .pointer (some ⟨ga, 0, none⟩), .pointer (some ⟨ga, 0, none⟩), .int .i64 who, .int .i64 x1, .pointer (some ⟨g, 0, none⟩), .pointer (some ⟨ga, 0, none⟩), .pointer (some ⟨(w.heap.size) + 1, 0, none⟩), .string u, .pointer (some ⟨(w.heap.size) + 1, 1, none⟩), .string s, .int .i64 x1, .bool false, .bool false, .pointer (some ⟨g, 0, none⟩), .pointer (some ⟨ga, 0, none⟩), .pointer (some ⟨(w.heap.size) + 1, 0, none⟩), .string u, .pointer (some ⟨(w.heap.size) + 1, 1, none⟩), .string s, .bool false, .bool false, .bool false, .pointer (some ⟨g, 0, none⟩), .pointer (some ⟨ga, 0, none⟩), .pointer (some ⟨(w.heap.size) + 1, 0, none⟩), .string u, .pointer (some ⟨(w.heap.size) + 1, 1, none⟩), .string s, .pointer (some ⟨ga, 0, none⟩), .pointer (some ⟨ga, 0, none⟩), .int .i64 x1, y88, y89, .bool false, .bool false, .bool false, .pointer (some ⟨g, 0, none⟩), .pointer (some ⟨(w.heap.size) + 1, 0, none⟩), .string u, .pointer (some ⟨(w.heap.size) + 1, 1, none⟩), .string s, .pointer (some ⟨ga, 0, none⟩), .int .i64 x1, y100, .bool false, .bool false, undef, undef, undef, undef, undef, undef, undef, undef, undef, undef, undef, undef, undef, undef, undef, undef, undef, undef, undef, undef, undef, undef, undef, undef, undef, undef, undef, undef, undef, undef, undef, undef, undef, undef, undef, undef, undef, undef, undef, undef, undef, undef, undef, undef, undef, undef, undef, undef, undef, undef, undef, undef, undef, undef, undef, undef, undef] := (hF.fin [(61, .pointer (some ⟨g, 0, none⟩)), (62, .pointer (some ⟨ga, 0, none⟩)), (63, .pointer (some ⟨(w.heap.size) + 1, 0, none⟩)), (64, .string u), (65, .pointer (some ⟨(w.heap.size) + 1, 1, none⟩)), (66, .string s), (67, .int .i64 x1), (68, .bool false), (69, .bool false), (70, .pointer (some ⟨g, 0, none⟩)), (71, .pointer (some ⟨ga, 0, none⟩)), (72, .pointer (some ⟨(w.heap.size) + 1, 0, none⟩)), (73, .string u), (74, .pointer (some ⟨(w.heap.size) + 1, 1, none⟩)), (75, .string s), (76, .bool false), (77, .bool false), (78, .bool false), (79, .pointer (some ⟨g, 0, none⟩)), (80, .pointer (some ⟨ga, 0, none⟩)), (81, .pointer (some ⟨(w.heap.size) + 1, 0, none⟩)), (82, .string u), (83, .pointer (some ⟨(w.heap.size) + 1, 1, none⟩)), (84, .string s), (85, .pointer (some ⟨ga, 0, none⟩)), (86, .pointer (some ⟨ga, 0, none⟩)), (87, .int .i64 x1), (88, y88), (89, y89), (90, .bool false), (91, .bool false), (92, .bool false), (93, .pointer (some ⟨g, 0, none⟩)), (94, .pointer (some ⟨(w.heap.size) + 1, 0, none⟩)), (95, .string u), (96, .pointer (some ⟨(w.heap.size) + 1, 1, none⟩)), (97, .string s), (98, .pointer (some ⟨ga, 0, none⟩)), (99, .int .i64 x1), (100, y100), (101, .bool false), (102, .bool false)] [61, 62, 63, 64, 65, 66, 67, 68, 69, 70, 71, 72, 73, 74, 75, 76, 77, 78, 79, 80, 81, 82, 83, 84, 85, 86, 87, 88, 89, 90, 91, 92, 93, 94, 95, 96, 97, 98, 99, 100, 101, 102] rfl (List.forall_mem_cons.2 ⟨hF.val 0 _ _ (hall 0 (show 0 < 42 by decide)) rfl rfl, (List.forall_mem_cons.2 ⟨hF.val 1 _ _ (hall 1 (show 1 < 42 by decide)) rfl rfl, (List.forall_mem_cons.2 ⟨hF.val 2 _ _ (hall 2 (show 2 < 42 by decide)) rfl rfl, (List.forall_mem_cons.2 ⟨hF.val 3 _ _ (hall 3 (show 3 < 42 by decide)) rfl rfl, (List.forall_mem_cons.2 ⟨hF.val 4 _ _ (hall 4 (show 4 < 42 by decide)) rfl rfl, (List.forall_mem_cons.2 ⟨hF.val 5 _ _ (hall 5 (show 5 < 42 by decide)) rfl rfl, (List.forall_mem_cons.2 ⟨hF.val 6 _ _ (hall 6 (show 6 < 42 by decide)) rfl rfl, (List.forall_mem_cons.2 ⟨hF.val 7 _ _ (hall 7 (show 7 < 42 by decide)) rfl rfl, (List.forall_mem_cons.2 ⟨hF.val 8 _ _ (hall 8 (show 8 < 42 by decide)) rfl rfl, (List.forall_mem_cons.2 ⟨hF.val 9 _ _ (hall 9 (show 9 < 42 by decide)) rfl rfl, (List.forall_mem_cons.2 ⟨hF.val 10 _ _ (hall 10 (show 10 < 42 by decide)) rfl rfl, (List.forall_mem_cons.2 ⟨hF.val 11 _ _ (hall 11 (show 11 < 42 by decide)) rfl rfl, (List.forall_mem_cons.2 ⟨hF.val 12 _ _ (hall 12 (show 12 < 42 by decide)) rfl rfl, (List.forall_mem_cons.2 ⟨hF.val 13 _ _ (hall 13 (show 13 < 42 by decide)) rfl rfl, (List.forall_mem_cons.2 ⟨hF.val 14 _ _ (hall 14 (show 14 < 42 by decide)) rfl rfl, (List.forall_mem_cons.2 ⟨hF.val 15 _ _ (hall 15 (show 15 < 42 by decide)) rfl rfl, (List.forall_mem_cons.2 ⟨hF.val 16 _ _ (hall 16 (show 16 < 42 by decide)) rfl rfl, (List.forall_mem_cons.2 ⟨hF.val 17 _ _ (hall 17 (show 17 < 42 by decide)) rfl rfl, (List.forall_mem_cons.2 ⟨hF.val 18 _ _ (hall 18 (show 18 < 42 by decide)) rfl rfl, (List.forall_mem_cons.2 ⟨hF.val 19 _ _ (hall 19 (show 19 < 42 by decide)) rfl rfl, (List.forall_mem_cons.2 ⟨hF.val 20 _ _ (hall 20 (show 20 < 42 by decide)) rfl rfl, (List.forall_mem_cons.2 ⟨hF.val 21 _ _ (hall 21 (show 21 < 42 by decide)) rfl rfl, (List.forall_mem_cons.2 ⟨hF.val 22 _ _ (hall 22 (show 22 < 42 by decide)) rfl rfl, (List.forall_mem_cons.2 ⟨hF.val 23 _ _ (hall 23 (show 23 < 42 by decide)) rfl rfl, (List.forall_mem_cons.2 ⟨hF.val 24 _ _ (hall 24 (show 24 < 42 by decide)) rfl rfl, (List.forall_mem_cons.2 ⟨hF.val 25 _ _ (hall 25 (show 25 < 42 by decide)) rfl rfl, (List.forall_mem_cons.2 ⟨hF.val 26 _ _ (hall 26 (show 26 < 42 by decide)) rfl rfl, (List.forall_mem_cons.2 ⟨h88, (List.forall_mem_cons.2 ⟨h89, (List.forall_mem_cons.2 ⟨hF.val 29 _ _ (hall 29 (show 29 < 42 by decide)) rfl rfl, (List.forall_mem_cons.2 ⟨hF.val 30 _ _ (hall 30 (show 30 < 42 by decide)) rfl rfl, (List.forall_mem_cons.2 ⟨hF.val 31 _ _ (hall 31 (show 31 < 42 by decide)) rfl rfl, (List.forall_mem_cons.2 ⟨hF.val 32 _ _ (hall 32 (show 32 < 42 by decide)) rfl rfl, (List.forall_mem_cons.2 ⟨hF.val 33 _ _ (hall 33 (show 33 < 42 by decide)) rfl rfl, (List.forall_mem_cons.2 ⟨hF.val 34 _ _ (hall 34 (show 34 < 42 by decide)) rfl rfl, (List.forall_mem_cons.2 ⟨hF.val 35 _ _ (hall 35 (show 35 < 42 by decide)) rfl rfl, (List.forall_mem_cons.2 ⟨hF.val 36 _ _ (hall 36 (show 36 < 42 by decide)) rfl rfl, (List.forall_mem_cons.2 ⟨hF.val 37 _ _ (hall 37 (show 37 < 42 by decide)) rfl rfl, (List.forall_mem_cons.2 ⟨hF.val 38 _ _ (hall 38 (show 38 < 42 by decide)) rfl rfl, (List.forall_mem_cons.2 ⟨h100, (List.forall_mem_cons.2 ⟨hF.val 40 _ _ (hall 40 (show 40 < 42 by decide)) rfl rfl, (List.forall_mem_cons.2 ⟨hF.val 41 _ _ (hall 41 (show 41 < 42 by decide)) rfl rfl, (fun _ h => absurd h List.not_mem_nil)⟩)⟩)⟩)⟩)⟩)⟩)⟩)⟩)⟩)⟩)⟩)⟩)⟩)⟩)⟩)⟩)⟩)⟩)⟩)⟩)⟩)⟩)⟩)⟩)⟩)⟩)⟩)⟩)⟩)⟩)⟩)⟩)⟩)⟩)⟩)⟩)⟩)⟩)⟩)⟩)⟩)⟩) (by decide)).trans (by kernel_rfl)
        clear hF hall
        subst hT
        clear h88 h89 h100
        obtain ⟨kt, hkt⟩ : ∃ kt, bs (encO (pubT (keyT who))) = kt := ⟨_, rfl⟩
        rw [hkt] at cH2
        have cP := fun W => pub22_any who W
        unfold TxR at cP
        rw [hkt] at cP
        replace cP := Lib.hid cP
        clear hkt hS5 hM5 hL5
        go_upto_region 12 with fail
        refine region_iw tbDn12 dsDn12 (vsDn12 g ga (w.heap.size) x1 who u s y88 y89 y100 A B n c m d rb kt) (fun L T W => ∃ Lc, St w3 ga W Lc ∧ Nm Lc x1 (keyT who) ∧ Lc.length ≤ 4 + (L 10).toNat + (L 34).toNat ∧ (L 10 = true → L 11 = false → ∃ x, T.getD 113 undef = .int .i64 x ∧ Nm Lc x (pubT (keyT who))) ∧ (L 34 = true → L 35 = false → ∃ x, T.getD 137 undef = .int .i64 x ∧ Nm Lc x (pubT (keyT who)))) rfl (by decide) (by kernel_rfl) ?hlt ?hstep ?hdone ?hstart
        case hstart => exact ⟨L9, hS9.out.keep (drewN_below 1), hM9.out, Nat.le_trans hL9.out (Nat.le_trans (Nat.le_add_right _ _) (Nat.le_add_right _ _)), fun h => absurd h (inv_not (n := 58) (i := 10) (by decide)), fun h => absurd h (inv_not (n := 58) (i := 34) (by decide))⟩
        case hlt =>
          intro ix o ho
          have hi := (Array.getElem?_eq_some_iff.1 ho).1
          match ix, hi with
          | 0, _ => obtain rfl := Option.some.inj ho; decide
          | 1, _ => obtain rfl := Option.some.inj ho; decide
          | 2, _ => obtain rfl := Option.some.inj ho; decide
          | 3, _ => obtain rfl := Option.some.inj ho; decide
          | 4, _ => obtain rfl := Option.some.inj ho; decide
          | 5, _ => obtain rfl := Option.some.inj ho; decide
          | 6, _ => obtain rfl := Option.some.inj ho; decide
          | 7, _ => obtain rfl := Option.some.inj ho; decide
          | 8, _ => obtain rfl := Option.some.inj ho; decide
          | 9, _ => obtain rfl := Option.some.inj ho; decide
          | 10, _ => obtain rfl := Option.some.inj ho; decide
          | 11, _ => obtain rfl := Option.some.inj ho; decide
          | 12, _ => obtain rfl := Option.some.inj ho; decide
          | 13, _ => obtain rfl := Option.some.inj ho; decide
          | 14, _ => obtain rfl := Option.some.inj ho; decide
          | 15, _ => obtain rfl := Option.some.inj ho; decide
          | 16, _ => obtain rfl := Option.some.inj ho; decide
          | 17, _ => obtain rfl := Option.some.inj ho; decide
          | 18, _ => obtain rfl := Option.some.inj ho; decide
          | 19, _ => obtain rfl := Option.some.inj ho; decide
          | 20, _ => obtain rfl := Option.some.inj ho; decide
          | 21, _ => obtain rfl := Option.some.inj ho; decide
          | 22, _ => obtain rfl := Option.some.inj ho; decide
          | 23, _ => obtain rfl := Option.some.inj ho; decide
          | 24, _ => obtain rfl := Option.some.inj ho; decide
          | 25, _ => obtain rfl := Option.some.inj ho; decide
          | 26, _ => obtain rfl := Option.some.inj ho; decide
          | 27, _ => obtain rfl := Option.some.inj ho; decide
          | 28, _ => obtain rfl := Option.some.inj ho; decide
          | 29, _ => obtain rfl := Option.some.inj ho; decide
          | 30, _ => obtain rfl := Option.some.inj ho; decide
          | 31, _ => obtain rfl := Option.some.inj ho; decide
          | 32, _ => obtain rfl := Option.some.inj ho; decide
          | 33, _ => obtain rfl := Option.some.inj ho; decide
          | 34, _ => obtain rfl := Option.some.inj ho; decide
          | 35, _ => obtain rfl := Option.some.inj ho; decide
          | 36, _ => obtain rfl := Option.some.inj ho; decide
          | 37, _ => obtain rfl := Option.some.inj ho; decide
          | 38, _ => obtain rfl := Option.some.inj ho; decide
          | 39, _ => obtain rfl := Option.some.inj ho; decide
          | 40, _ => obtain rfl := Option.some.inj ho; decide
          | 41, _ => obtain rfl := Option.some.inj ho; decide
          | 42, _ => obtain rfl := Option.some.inj ho; decide
          | 43, _ => obtain rfl := Option.some.inj ho; decide
          | 44, _ => obtain rfl := Option.some.inj ho; decide
          | 45, _ => obtain rfl := Option.some.inj ho; decide
          | 46, _ => obtain rfl := Option.some.inj ho; decide
          | 47, _ => obtain rfl := Option.some.inj ho; decide
          | 48, _ => obtain rfl := Option.some.inj ho; decide
          | 49, _ => obtain rfl := Option.some.inj ho; decide
          | 50, _ => obtain rfl := Option.some.inj ho; decide
          | 51, _ => obtain rfl := Option.some.inj ho; decide
          | 52, _ => obtain rfl := Option.some.inj ho; decide
          | 53, _ => obtain rfl := Option.some.inj ho; decide
          | 54, _ => obtain rfl := Option.some.inj ho; decide
          | 55, _ => obtain rfl := Option.some.inj ho; decide
          | 56, _ => obtain rfl := Option.some.inj ho; decide
          | 57, _ => obtain rfl := Option.some.inj ho; decide
        case hstep =>
          intro T1 hE L T W ix o hF hW hc ho hLi hd K hK
          have hN : T1.size = 160 := by rw [hE]; rfl
          have f2 : T.getD 2 undef = .int .i64 who := (hF.old 2 (by decide)).trans (by rw [hE]; rfl)
          have f3 : T.getD 3 undef = .pointer (some ⟨(w.heap.size), 0, none⟩) := (hF.old 3 (by decide)).trans (by rw [hE]; rfl)
          have f4 : T.getD 4 undef = .pointer (some ⟨(w.heap.size) + 1, 0, none⟩) := (hF.old 4 (by decide)).trans (by rw [hE]; rfl)
          have f7 : T.getD 7 undef = .pointer (some ⟨g, 0, none⟩) := (hF.old 7 (by decide)).trans (by rw [hE]; rfl)
          have f11 : T.getD 11 undef = .pointer (some ⟨ga, 0, none⟩) := (hF.old 11 (by decide)).trans (by rw [hE]; rfl)
          have f12 : T.getD 12 undef = .int .i64 x1 := (hF.old 12 (by decide)).trans (by rw [hE]; rfl)
          have f13 : T.getD 13 undef = .pointer none := (hF.old 13 (by decide)).trans (by rw [hE]; rfl)
          clear hE
          replace hF := Lib.hid hF
          replace hW := Lib.hid hW
          replace hK := Lib.hid hK
          have hi := (List.getElem?_eq_some_iff.1 ho).1
          match ix, hi with
          | 0, _ =>
            obtain rfl := Option.some.inj ho
            obtain ⟨Lc, hLc⟩ := hW.out
            replace hLc := Lib.hid hLc
            have cc := Lib.hid (aw.out W)
            clear hd ho hi hc hLi
            refine st_call (want_none rfl) (by unfold execOp; go_simp) cc.out ?_
            rintro r wz ⟨rfl, hb4⟩
            exact ⟨_, rfl, hK.out _ _ (hF.out.put (k := 0) (s := 103) rfl (by decide) hN (by decide) (fun u_v hu => Option.some.inj (Option.some.inj (show some (some (.bool true)) = some (some u_v) from hu))) (by dsimp only; rw [gd_ne (show 103 ≠ 113 by decide), gd_ne (show 103 ≠ 137 by decide)]; exact ⟨Lc, hLc.out.1.keep hb4, hLc.out.2⟩))⟩
          | 1, _ =>
            obtain rfl := Option.some.inj ho
            have l0 : L 0 = true := dep_of hd (n := 0) (by decide)
            have e103 : T.getD 103 undef = .bool true := hF.out.val 0 103 _ l0 rfl rfl
            clear hd ho hi hc hLi
            exact st_val (v := .bool true) (w' := W) (want_none rfl) (by unfold execOp; dsimp only [Act.eval]; simp only [e103]; go_simp) (hK.out _ _ (hF.out.put (k := 1) (s := 104) rfl (by decide) hN (by decide) (fun u_v hu => Option.some.inj (Option.some.inj (show some (some (.bool true)) = some (some u_v) from hu))) (by dsimp only; rw [gd_ne (show 104 ≠ 113 by decide), gd_ne (show 104 ≠ 137 by decide)]; exact hW.out)))
          | 2, _ =>
            obtain rfl := Option.some.inj ho
            have l1 : L 1 = true := dep_of hd (n := 1) (by decide)
            have e104 : T.getD 104 undef = .bool true := hF.out.val 1 104 _ l1 rfl rfl
            clear hd ho hi hc hLi
            exact st_val (v := .pointer (some ⟨g, 0, none⟩)) (w' := W) (by rw [want_some (j := 1) (s := 104) rfl rfl e104]; rfl) (by unfold execOp; dsimp only [Act.eval]; simp only [f7]; go_simp) (hK.out _ _ (hF.out.put (k := 2) (s := 105) rfl (by decide) hN (by decide) (fun u_v hu => Option.some.inj (Option.some.inj (show some (some (.pointer (some ⟨g, 0, none⟩))) = some (some u_v) from hu))) (by dsimp only; rw [gd_ne (show 105 ≠ 113 by decide), gd_ne (show 105 ≠ 137 by decide)]; exact hW.out)))
          | 3, _ =>
            obtain rfl := Option.some.inj ho
            have l1 : L 1 = true := dep_of hd (n := 1) (by decide)
            have e104 : T.getD 104 undef = .bool true := hF.out.val 1 104 _ l1 rfl rfl
            clear hd ho hi hc hLi
            exact st_val (v := .pointer (some ⟨ga, 0, none⟩)) (w' := W) (by rw [want_some (j := 1) (s := 104) rfl rfl e104]; rfl) (by unfold execOp; dsimp only [Act.eval]; simp only [f11]; go_simp) (hK.out _ _ (hF.out.put (k := 3) (s := 106) rfl (by decide) hN (by decide) (fun u_v hu => Option.some.inj (Option.some.inj (show some (some (.pointer (some ⟨ga, 0, none⟩))) = some (some u_v) from hu))) (by dsimp only; rw [gd_ne (show 106 ≠ 113 by decide), gd_ne (show 106 ≠ 137 by decide)]; exact hW.out)))
          | 4, _ =>
            obtain rfl := Option.some.inj ho
            have l1 : L 1 = true := dep_of hd (n := 1) (by decide)
            have e104 : T.getD 104 undef = .bool true := hF.out.val 1 104 _ l1 rfl rfl
            clear hd ho hi hc hLi
            exact st_val (v := .pointer (some ⟨(w.heap.size) + 1, 0, none⟩)) (w' := W) (by rw [want_some (j := 1) (s := 104) rfl rfl e104]; rfl) (by unfold execOp; dsimp only [Act.eval]; simp only [f4]; go_simp) (hK.out _ _ (hF.out.put (k := 4) (s := 107) rfl (by decide) hN (by decide) (fun u_v hu => Option.some.inj (Option.some.inj (show some (some (.pointer (some ⟨(w.heap.size) + 1, 0, none⟩))) = some (some u_v) from hu))) (by dsimp only; rw [gd_ne (show 107 ≠ 113 by decide), gd_ne (show 107 ≠ 137 by decide)]; exact hW.out)))
          | 5, _ =>
            obtain rfl := Option.some.inj ho
            have l4 : L 4 = true := dep_of hd (n := 4) (by decide)
            have e107 : T.getD 107 undef = .pointer (some ⟨(w.heap.size) + 1, 0, none⟩) := hF.out.val 4 107 _ l4 rfl rfl
            have l1 : L 1 = true := dep_of hd (n := 1) (by decide)
            have e104 : T.getD 104 undef = .bool true := hF.out.val 1 104 _ l1 rfl rfl
            obtain ⟨Lc, hLc⟩ := hW.out
            have hcc := (hcl.out W hLc.1.below).2.2.2.1
            clear hLc
            clear hd ho hi hc hLi
            exact st_val (v := .string u) (w' := W) (by rw [want_some (j := 1) (s := 104) rfl rfl e104]; rfl) (by unfold execOp; dsimp only [Act.eval]; simp only [e107]; go_simp) (hK.out _ _ (hF.out.put (k := 5) (s := 108) rfl (by decide) hN (by decide) (fun u_v hu => Option.some.inj (Option.some.inj (show some (some (.string u)) = some (some u_v) from hu))) (by dsimp only; rw [gd_ne (show 108 ≠ 113 by decide), gd_ne (show 108 ≠ 137 by decide)]; exact hW.out)))
          | 6, _ =>
            obtain rfl := Option.some.inj ho
            have l1 : L 1 = true := dep_of hd (n := 1) (by decide)
            have e104 : T.getD 104 undef = .bool true := hF.out.val 1 104 _ l1 rfl rfl
            clear hd ho hi hc hLi
            exact st_val (v := .pointer (some ⟨(w.heap.size) + 1, 1, none⟩)) (w' := W) (by rw [want_some (j := 1) (s := 104) rfl rfl e104]; rfl) (by unfold execOp; dsimp only [Act.eval]; simp only [f4]; go_simp) (hK.out _ _ (hF.out.put (k := 6) (s := 109) rfl (by decide) hN (by decide) (fun u_v hu => Option.some.inj (Option.some.inj (show some (some (.pointer (some ⟨(w.heap.size) + 1, 1, none⟩))) = some (some u_v) from hu))) (by dsimp only; rw [gd_ne (show 109 ≠ 113 by decide), gd_ne (show 109 ≠ 137 by decide)]; exact hW.out)))
          | 7, _ =>
            obtain rfl := Option.some.inj ho
            have l6 : L 6 = true := dep_of hd (n := 6) (by decide)
            have e109 : T.getD 109 undef = .pointer (some ⟨(w.heap.size) + 1, 1, none⟩) := hF.out.val 6 109 _ l6 rfl rfl
            have l1 : L 1 = true := dep_of hd (n := 1) (by decide)
            have e104 : T.getD 104 undef = .bool true := hF.out.val 1 104 _ l1 rfl rfl
            obtain ⟨Lc, hLc⟩ := hW.out
            have hcc := (hcl.out W hLc.1.below).2.2.2.2
            clear hLc
            clear hd ho hi hc hLi
            exact st_val (v := .string s) (w' := W) (by rw [want_some (j := 1) (s := 104) rfl rfl e104]; rfl) (by unfold execOp; dsimp only [Act.eval]; simp only [e109]; go_simp) (hK.out _ _ (hF.out.put (k := 7) (s := 110) rfl (by decide) hN (by decide) (fun u_v hu => Option.some.inj (Option.some.inj (show some (some (.string s)) = some (some u_v) from hu))) (by dsimp only; rw [gd_ne (show 110 ≠ 113 by decide), gd_ne (show 110 ≠ 137 by decide)]; exact hW.out)))
          | 8, _ =>
            obtain rfl := Option.some.inj ho
            have l1 : L 1 = true := dep_of hd (n := 1) (by decide)
            have e104 : T.getD 104 undef = .bool true := hF.out.val 1 104 _ l1 rfl rfl
            clear hd ho hi hc hLi
            exact st_val (v := .pointer (some ⟨ga, 0, none⟩)) (w' := W) (by rw [want_some (j := 1) (s := 104) rfl rfl e104]; rfl) (by unfold execOp; dsimp only [Act.eval]; simp only [f11]; go_simp) (hK.out _ _ (hF.out.put (k := 8) (s := 111) rfl (by decide) hN (by decide) (fun u_v hu => Option.some.inj (Option.some.inj (show some (some (.pointer (some ⟨ga, 0, none⟩))) = some (some u_v) from hu))) (by dsimp only; rw [gd_ne (show 111 ≠ 113 by decide), gd_ne (show 111 ≠ 137 by decide)]; exact hW.out)))
          | 9, _ =>
            obtain rfl := Option.some.inj ho
            have l1 : L 1 = true := dep_of hd (n := 1) (by decide)
            have e104 : T.getD 104 undef = .bool true := hF.out.val 1 104 _ l1 rfl rfl
            clear hd ho hi hc hLi
            exact st_val (v := .int .i64 x1) (w' := W) (by rw [want_some (j := 1) (s := 104) rfl rfl e104]; rfl) (by unfold execOp; dsimp only [Act.eval]; simp only [f12]; go_simp) (hK.out _ _ (hF.out.put (k := 9) (s := 112) rfl (by decide) hN (by decide) (fun u_v hu => Option.some.inj (Option.some.inj (show some (some (.int .i64 x1)) = some (some u_v) from hu))) (by dsimp only; rw [gd_ne (show 112 ≠ 113 by decide), gd_ne (show 112 ≠ 137 by decide)]; exact hW.out)))
          | 10, _ =>
            obtain rfl := Option.some.inj ho
            have l8 : L 8 = true := dep_of hd (n := 8) (by decide)
            have e111 : T.getD 111 undef = .pointer (some ⟨ga, 0, none⟩) := hF.out.val 8 111 _ l8 rfl rfl
            have l9 : L 9 = true := dep_of hd (n := 9) (by decide)
            have e112 : T.getD 112 undef = .int .i64 x1 := hF.out.val 9 112 _ l9 rfl rfl
            have l1 : L 1 = true := dep_of hd (n := 1) (by decide)
            have e104 : T.getD 104 undef = .bool true := hF.out.val 1 104 _ l1 rfl rfl
            obtain ⟨Lc, hLc⟩ := hW.out
            replace hLc := Lib.hid hLc
            have cc := hLc.out.1.pub (by have := hLc.out.2.2.1; have := Bool.toNat_le (L 10); have := Bool.toNat_le (L 34); omega) x1
            rw [hLc.out.2.1.1] at cc
            replace cc := Lib.hid cc
            clear hd ho hi hc
            refine st_call (by rw [want_some (j := 1) (s := 104) rfl rfl e104]; rfl) (by unfold execOp; go_simp) cc.out ?_
            rintro r wz ⟨L', x', rfl, a1, a2, a3, -, -, -⟩
            exact ⟨_, rfl, hK.out _ _ (hF.out.put (k := 10) (s := 113) rfl (by decide) hN (by decide) (fun u hu => by cases hu) ⟨L', a1, hLc.out.2.1.grow a2, (by have h1 := a2.len.2; have h2 := hLc.out.2.2.1; have h3 : (L 10).toNat = 0 := (by rw [hLi]; rfl); show L'.length ≤ 4 + 1 + (L 34).toNat; omega), fun _ _ => ⟨x', gd_eq (by rw [hF.out.size, hN]; decide), a3⟩, (fun h1 h2 => by obtain ⟨x, e, mm⟩ := hLc.out.2.2.2.2 h1 h2; exact ⟨x, (gd_ne (show 113 ≠ 137 by decide)).trans e, mm.grow a2⟩)⟩)⟩
          | 11, _ =>
            obtain rfl := Option.some.inj ho
            have l2 : L 2 = true := dep_of hd (n := 2) (by decide)
            have e105 : T.getD 105 undef = .pointer (some ⟨g, 0, none⟩) := hF.out.val 2 105 _ l2 rfl rfl
            have l3 : L 3 = true := dep_of hd (n := 3) (by decide)
            have e106 : T.getD 106 undef = .pointer (some ⟨ga, 0, none⟩) := hF.out.val 3 106 _ l3 rfl rfl
            have l5 : L 5 = true := dep_of hd (n := 5) (by decide)
            have e108 : T.getD 108 undef = .string u := hF.out.val 5 108 _ l5 rfl rfl
            have l7 : L 7 = true := dep_of hd (n := 7) (by decide)
            have e110 : T.getD 110 undef = .string s := hF.out.val 7 110 _ l7 rfl rfl
            have l10 : L 10 = true := dep_of hd (n := 10) (by decide)
            have l1 : L 1 = true := dep_of hd (n := 1) (by decide)
            have e104 : T.getD 104 undef = .bool true := hF.out.val 1 104 _ l1 rfl rfl
            obtain ⟨Lc, hLc⟩ := hW.out
            replace hLc := Lib.hid hLc
            obtain ⟨x113, e113, m113⟩ := hLc.out.2.2.2.1 l10 hLi
            have cc := Lib.hid (cH1.out W Lc x113 hLc.out.1 m113)
            clear m113
            clear hd ho hi hc
            refine st_call (by rw [want_some (j := 1) (s := 104) rfl rfl e104]; rfl) (by unfold execOp; go_simp) cc.out ?_
            rintro r wz ⟨rfl, hb4⟩
            exact ⟨_, rfl, hK.out _ _ (hF.out.put (k := 11) (s := 114) rfl (by decide) hN (by decide) (fun u_v hu => Option.some.inj (Option.some.inj (show some (some (.bool rb)) = some (some u_v) from hu))) ⟨Lc, hLc.out.1.keep hb4, hLc.out.2.1, hLc.out.2.2.1, fun _ h => absurd h (by simp), (fun h1 h2 => by obtain ⟨x, e, mm⟩ := hLc.out.2.2.2.2 h1 h2; exact ⟨x, (gd_ne (show 114 ≠ 137 by decide)).trans e, mm⟩)⟩)⟩
          | 12, _ =>
            obtain rfl := Option.some.inj ho
            have l1 : L 1 = true := dep_of hd (n := 1) (by decide)
            have e104 : T.getD 104 undef = .bool true := hF.out.val 1 104 _ l1 rfl rfl
            clear hd ho hi hc hLi
            exact st_val (v := .pointer (some ⟨(w.heap.size), 0, none⟩)) (w' := W) (by rw [want_some (j := 1) (s := 104) rfl rfl e104]; rfl) (by unfold execOp; dsimp only [Act.eval]; simp only [f3]; go_simp) (hK.out _ _ (hF.out.put (k := 12) (s := 115) rfl (by decide) hN (by decide) (fun u_v hu => Option.some.inj (Option.some.inj (show some (some (.pointer (some ⟨(w.heap.size), 0, none⟩))) = some (some u_v) from hu))) (by dsimp only; rw [gd_ne (show 115 ≠ 113 by decide), gd_ne (show 115 ≠ 137 by decide)]; exact hW.out)))
          | 13, _ =>
            obtain rfl := Option.some.inj ho
            have l12 : L 12 = true := dep_of hd (n := 12) (by decide)
            have e115 : T.getD 115 undef = .pointer (some ⟨(w.heap.size), 0, none⟩) := hF.out.val 12 115 _ l12 rfl rfl
            have l1 : L 1 = true := dep_of hd (n := 1) (by decide)
            have e104 : T.getD 104 undef = .bool true := hF.out.val 1 104 _ l1 rfl rfl
            obtain ⟨Lc, hLc⟩ := hW.out
            have hcc := (hcl.out W hLc.1.below).1
            clear hLc
            clear hd ho hi hc hLi
            exact st_val (v := .slice A n c) (w' := W) (by rw [want_some (j := 1) (s := 104) rfl rfl e104]; rfl) (by unfold execOp; dsimp only [Act.eval]; simp only [e115]; go_simp) (hK.out _ _ (hF.out.put (k := 13) (s := 116) rfl (by decide) hN (by decide) (fun u_v hu => Option.some.inj (Option.some.inj (show some (some (.slice A n c)) = some (some u_v) from hu))) (by dsimp only; rw [gd_ne (show 116 ≠ 113 by decide), gd_ne (show 116 ≠ 137 by decide)]; exact hW.out)))
          | 14, _ =>
            obtain rfl := Option.some.inj ho
            have l1 : L 1 = true := dep_of hd (n := 1) (by decide)
            have e104 : T.getD 104 undef = .bool true := hF.out.val 1 104 _ l1 rfl rfl
            clear hd ho hi hc hLi
            exact st_val (v := .pointer (some ⟨(w.heap.size), 1, none⟩)) (w' := W) (by rw [want_some (j := 1) (s := 104) rfl rfl e104]; rfl) (by unfold execOp; dsimp only [Act.eval]; simp only [f3]; go_simp) (hK.out _ _ (hF.out.put (k := 14) (s := 117) rfl (by decide) hN (by decide) (fun u_v hu => Option.some.inj (Option.some.inj (show some (some (.pointer (some ⟨(w.heap.size), 1, none⟩))) = some (some u_v) from hu))) (by dsimp only; rw [gd_ne (show 117 ≠ 113 by decide), gd_ne (show 117 ≠ 137 by decide)]; exact hW.out)))
          | 15, _ =>
            obtain rfl := Option.some.inj ho
            have l14 : L 14 = true := dep_of hd (n := 14) (by decide)
            have e117 : T.getD 117 undef = .pointer (some ⟨(w.heap.size), 1, none⟩) := hF.out.val 14 117 _ l14 rfl rfl
            have l1 : L 1 = true := dep_of hd (n := 1) (by decide)
            have e104 : T.getD 104 undef = .bool true := hF.out.val 1 104 _ l1 rfl rfl
            obtain ⟨Lc, hLc⟩ := hW.out
            have hcc := (hcl.out W hLc.1.below).2.1
            clear hLc
            clear hd ho hi hc hLi
            exact st_val (v := .slice B m d) (w' := W) (by rw [want_some (j := 1) (s := 104) rfl rfl e104]; rfl) (by unfold execOp; dsimp only [Act.eval]; simp only [e117]; go_simp) (hK.out _ _ (hF.out.put (k := 15) (s := 118) rfl (by decide) hN (by decide) (fun u_v hu => Option.some.inj (Option.some.inj (show some (some (.slice B m d)) = some (some u_v) from hu))) (by dsimp only; rw [gd_ne (show 118 ≠ 113 by decide), gd_ne (show 118 ≠ 137 by decide)]; exact hW.out)))
          | 16, _ =>
            obtain rfl := Option.some.inj ho
            have l1 : L 1 = true := dep_of hd (n := 1) (by decide)
            have e104 : T.getD 104 undef = .bool true := hF.out.val 1 104 _ l1 rfl rfl
            clear hd ho hi hc hLi
            exact st_val (v := .pointer (some ⟨(w.heap.size) + 1, 0, none⟩)) (w' := W) (by rw [want_some (j := 1) (s := 104) rfl rfl e104]; rfl) (by unfold execOp; dsimp only [Act.eval]; simp only [f4]; go_simp) (hK.out _ _ (hF.out.put (k := 16) (s := 119) rfl (by decide) hN (by decide) (fun u_v hu => Option.some.inj (Option.some.inj (show some (some (.pointer (some ⟨(w.heap.size) + 1, 0, none⟩))) = some (some u_v) from hu))) (by dsimp only; rw [gd_ne (show 119 ≠ 113 by decide), gd_ne (show 119 ≠ 137 by decide)]; exact hW.out)))
          | 17, _ =>
            obtain rfl := Option.some.inj ho
            have l16 : L 16 = true := dep_of hd (n := 16) (by decide)
            have e119 : T.getD 119 undef = .pointer (some ⟨(w.heap.size) + 1, 0, none⟩) := hF.out.val 16 119 _ l16 rfl rfl
            have l1 : L 1 = true := dep_of hd (n := 1) (by decide)
            have e104 : T.getD 104 undef = .bool true := hF.out.val 1 104 _ l1 rfl rfl
            obtain ⟨Lc, hLc⟩ := hW.out
            have hcc := (hcl.out W hLc.1.below).2.2.2.1
            clear hLc
            clear hd ho hi hc hLi
            exact st_val (v := .string u) (w' := W) (by rw [want_some (j := 1) (s := 104) rfl rfl e104]; rfl) (by unfold execOp; dsimp only [Act.eval]; simp only [e119]; go_simp) (hK.out _ _ (hF.out.put (k := 17) (s := 120) rfl (by decide) hN (by decide) (fun u_v hu => Option.some.inj (Option.some.inj (show some (some (.string u)) = some (some u_v) from hu))) (by dsimp only; rw [gd_ne (show 120 ≠ 113 by decide), gd_ne (show 120 ≠ 137 by decide)]; exact hW.out)))
          | 18, _ =>
            obtain rfl := Option.some.inj ho
            have l1 : L 1 = true := dep_of hd (n := 1) (by decide)
            have e104 : T.getD 104 undef = .bool true := hF.out.val 1 104 _ l1 rfl rfl
            clear hd ho hi hc hLi
            exact st_val (v := .pointer (some ⟨(w.heap.size) + 1, 1, none⟩)) (w' := W) (by rw [want_some (j := 1) (s := 104) rfl rfl e104]; rfl) (by unfold execOp; dsimp only [Act.eval]; simp only [f4]; go_simp) (hK.out _ _ (hF.out.put (k := 18) (s := 121) rfl (by decide) hN (by decide) (fun u_v hu => Option.some.inj (Option.some.inj (show some (some (.pointer (some ⟨(w.heap.size) + 1, 1, none⟩))) = some (some u_v) from hu))) (by dsimp only; rw [gd_ne (show 121 ≠ 113 by decide), gd_ne (show 121 ≠ 137 by decide)]; exact hW.out)))
          | 19, _ =>
            obtain rfl := Option.some.inj ho
            have l18 : L 18 = true := dep_of hd (n := 18) (by decide)
            have e121 : T.getD 121 undef = .pointer (some ⟨(w.heap.size) + 1, 1, none⟩) := hF.out.val 18 121 _ l18 rfl rfl
            have l1 : L 1 = true := dep_of hd (n := 1) (by decide)
            have e104 : T.getD 104 undef = .bool true := hF.out.val 1 104 _ l1 rfl rfl
            obtain ⟨Lc, hLc⟩ := hW.out
            have hcc := (hcl.out W hLc.1.below).2.2.2.2
            clear hLc
            clear hd ho hi hc hLi
            exact st_val (v := .string s) (w' := W) (by rw [want_some (j := 1) (s := 104) rfl rfl e104]; rfl) (by unfold execOp; dsimp only [Act.eval]; simp only [e121]; go_simp) (hK.out _ _ (hF.out.put (k := 19) (s := 122) rfl (by decide) hN (by decide) (fun u_v hu => Option.some.inj (Option.some.inj (show some (some (.string s)) = some (some u_v) from hu))) (by dsimp only; rw [gd_ne (show 122 ≠ 113 by decide), gd_ne (show 122 ≠ 137 by decide)]; exact hW.out)))
          | 20, _ =>
            obtain rfl := Option.some.inj ho
            have l1 : L 1 = true := dep_of hd (n := 1) (by decide)
            have e104 : T.getD 104 undef = .bool true := hF.out.val 1 104 _ l1 rfl rfl
            clear hd ho hi hc hLi
            exact st_val (v := .int .i64 who) (w' := W) (by rw [want_some (j := 1) (s := 104) rfl rfl e104]; rfl) (by unfold execOp; dsimp only [Act.eval]; simp only [f2]; go_simp) (hK.out _ _ (hF.out.put (k := 20) (s := 123) rfl (by decide) hN (by decide) (fun u_v hu => Option.some.inj (Option.some.inj (show some (some (.int .i64 who)) = some (some u_v) from hu))) (by dsimp only; rw [gd_ne (show 123 ≠ 113 by decide), gd_ne (show 123 ≠ 137 by decide)]; exact hW.out)))
          | 21, _ =>
            obtain rfl := Option.some.inj ho
            have l20 : L 20 = true := dep_of hd (n := 20) (by decide)
            have e123 : T.getD 123 undef = .int .i64 who := hF.out.val 20 123 _ l20 rfl rfl
            have l1 : L 1 = true := dep_of hd (n := 1) (by decide)
            have e104 : T.getD 104 undef = .bool true := hF.out.val 1 104 _ l1 rfl rfl
            obtain ⟨Lc, hLc⟩ := hW.out
            replace hLc := Lib.hid hLc
            have cc := Lib.hid (cP.out W)
            clear hd ho hi hc hLi
            refine st_call (by rw [want_some (j := 1) (s := 104) rfl rfl e104]; rfl) (by unfold execOp; go_simp) cc.out ?_
            rintro r wz ⟨rfl, hb4⟩
            exact ⟨_, rfl, hK.out _ _ (hF.out.put (k := 21) (s := 124) rfl (by decide) hN (by decide) (fun u_v hu => Option.some.inj (Option.some.inj (show some (some (.string kt)) = some (some u_v) from hu))) (by dsimp only; rw [gd_ne (show 124 ≠ 113 by decide), gd_ne (show 124 ≠ 137 by decide)]; exact ⟨Lc, hLc.out.1.keep hb4, hLc.out.2⟩))⟩
          | 22, _ =>
            obtain rfl := Option.some.inj ho
            have l13 : L 13 = true := dep_of hd (n := 13) (by decide)
            have e116 : T.getD 116 undef = .slice A n c := hF.out.val 13 116 _ l13 rfl rfl
            have l15 : L 15 = true := dep_of hd (n := 15) (by decide)
            have e118 : T.getD 118 undef = .slice B m d := hF.out.val 15 118 _ l15 rfl rfl
            have l17 : L 17 = true := dep_of hd (n := 17) (by decide)
            have e120 : T.getD 120 undef = .string u := hF.out.val 17 120 _ l17 rfl rfl
            have l19 : L 19 = true := dep_of hd (n := 19) (by decide)
            have e122 : T.getD 122 undef = .string s := hF.out.val 19 122 _ l19 rfl rfl
            have l21 : L 21 = true := dep_of hd (n := 21) (by decide)
            have e124 : T.getD 124 undef = .string kt := hF.out.val 21 124 _ l21 rfl rfl
            have l1 : L 1 = true := dep_of hd (n := 1) (by decide)
            have e104 : T.getD 104 undef = .bool true := hF.out.val 1 104 _ l1 rfl rfl
            obtain ⟨Lc, hLc⟩ := hW.out
            replace hLc := Lib.hid hLc
            have cc := Lib.hid (cH2.out W hLc.out.1.below)
            clear hd ho hi hc hLi
            refine st_call (by rw [want_some (j := 1) (s := 104) rfl rfl e104]; rfl) (by unfold execOp; go_simp) cc.out ?_
            rintro r wz ⟨rfl, hb4⟩
            exact ⟨_, rfl, hK.out _ _ (hF.out.put (k := 22) (s := 125) rfl (by decide) hN (by decide) (fun u_v hu => Option.some.inj (Option.some.inj (show some (some (.bool rb)) = some (some u_v) from hu))) (by dsimp only; rw [gd_ne (show 125 ≠ 113 by decide), gd_ne (show 125 ≠ 137 by decide)]; exact ⟨Lc, hLc.out.1.keep hb4, hLc.out.2⟩))⟩
          | 23, _ =>
            obtain rfl := Option.some.inj ho
            have l11 : L 11 = true := dep_of hd (n := 11) (by decide)
            have e114 : T.getD 114 undef = .bool rb := hF.out.val 11 114 _ l11 rfl rfl
            have l22 : L 22 = true := dep_of hd (n := 22) (by decide)
            have e125 : T.getD 125 undef = .bool rb := hF.out.val 22 125 _ l22 rfl rfl
            have l1 : L 1 = true := dep_of hd (n := 1) (by decide)
            have e104 : T.getD 104 undef = .bool true := hF.out.val 1 104 _ l1 rfl rfl
            clear hd ho hi hc hLi
            exact st_val (v := .bool true) (w' := W) (by rw [want_some (j := 1) (s := 104) rfl rfl e104]; rfl) (by unfold execOp; dsimp only [Act.eval]; simp only [e114, e125]; go_simp) (hK.out _ _ (hF.out.put (k := 23) (s := 126) rfl (by decide) hN (by decide) (fun u_v hu => Option.some.inj (Option.some.inj (show some (some (.bool true)) = some (some u_v) from hu))) (by dsimp only; rw [gd_ne (show 126 ≠ 113 by decide), gd_ne (show 126 ≠ 137 by decide)]; exact hW.out)))
          | 24, _ =>
            obtain rfl := Option.some.inj ho
            have l1 : L 1 = true := dep_of hd (n := 1) (by decide)
            have e104 : T.getD 104 undef = .bool true := hF.out.val 1 104 _ l1 rfl rfl
            have l23 : L 23 = true := dep_of hd (n := 23) (by decide)
            have e126 : T.getD 126 undef = .bool true := hF.out.val 23 126 _ l23 rfl rfl
            clear hd ho hi hc hLi
            exact st_val (v := .bool true) (w' := W) (want_none rfl) (by unfold execOp; dsimp only [Act.eval]; simp only [e104, e126]; go_simp) (hK.out _ _ (hF.out.put (k := 24) (s := 127) rfl (by decide) hN (by decide) (fun u_v hu => Option.some.inj (Option.some.inj (show some (some (.bool true)) = some (some u_v) from hu))) (by dsimp only; rw [gd_ne (show 127 ≠ 113 by decide), gd_ne (show 127 ≠ 137 by decide)]; exact hW.out)))
          | 25, _ =>
            obtain rfl := Option.some.inj ho
            have l24 : L 24 = true := dep_of hd (n := 24) (by decide)
            have e127 : T.getD 127 undef = .bool true := hF.out.val 24 127 _ l24 rfl rfl
            clear hd ho hi hc hLi
            exact st_val (v := .bool true) (w' := W) (want_none rfl) (by unfold execOp; dsimp only [Act.eval]; simp only [e127]; go_simp) (hK.out _ _ (hF.out.put (k := 25) (s := 128) rfl (by decide) hN (by decide) (fun u_v hu => Option.some.inj (Option.some.inj (show some (some (.bool true)) = some (some u_v) from hu))) (by dsimp only; rw [gd_ne (show 128 ≠ 113 by decide), gd_ne (show 128 ≠ 137 by decide)]; exact hW.out)))
          | 26, _ =>
            obtain rfl := Option.some.inj ho
            have l25 : L 25 = true := dep_of hd (n := 25) (by decide)
            have e128 : T.getD 128 undef = .bool true := hF.out.val 25 128 _ l25 rfl rfl
            clear hd ho hi hc hLi
            exact st_val (v := .pointer none) (w' := W) (by rw [want_some (j := 25) (s := 128) rfl rfl e128]; rfl) (by unfold execOp; dsimp only [Act.eval]; simp only [f13]; go_simp) (hK.out _ _ (hF.out.put (k := 26) (s := 129) rfl (by decide) hN (by decide) (fun u_v hu => Option.some.inj (Option.some.inj (show some (some (.pointer none)) = some (some u_v) from hu))) (by dsimp only; rw [gd_ne (show 129 ≠ 113 by decide), gd_ne (show 129 ≠ 137 by decide)]; exact hW.out)))
          | 27, _ =>
            obtain rfl := Option.some.inj ho
            have l25 : L 25 = true := dep_of hd (n := 25) (by decide)
            have e128 : T.getD 128 undef = .bool true := hF.out.val 25 128 _ l25 rfl rfl
            clear hd ho hi hc hLi
            exact st_val (v := .pointer (some ⟨ga, 0, none⟩)) (w' := W) (by rw [want_some (j := 25) (s := 128) rfl rfl e128]; rfl) (by unfold execOp; dsimp only [Act.eval]; simp only [f11]; go_simp) (hK.out _ _ (hF.out.put (k := 27) (s := 130) rfl (by decide) hN (by decide) (fun u_v hu => Option.some.inj (Option.some.inj (show some (some (.pointer (some ⟨ga, 0, none⟩))) = some (some u_v) from hu))) (by dsimp only; rw [gd_ne (show 130 ≠ 113 by decide), gd_ne (show 130 ≠ 137 by decide)]; exact hW.out)))
          | 28, _ =>
            obtain rfl := Option.some.inj ho
            have l25 : L 25 = true := dep_of hd (n := 25) (by decide)
            have e128 : T.getD 128 undef = .bool true := hF.out.val 25 128 _ l25 rfl rfl
            clear hd ho hi hc hLi
            exact st_val (v := .pointer (some ⟨(w.heap.size) + 1, 0, none⟩)) (w' := W) (by rw [want_some (j := 25) (s := 128) rfl rfl e128]; rfl) (by unfold execOp; dsimp only [Act.eval]; simp only [f4]; go_simp) (hK.out _ _ (hF.out.put (k := 28) (s := 131) rfl (by decide) hN (by decide) (fun u_v hu => Option.some.inj (Option.some.inj (show some (some (.pointer (some ⟨(w.heap.size) + 1, 0, none⟩))) = some (some u_v) from hu))) (by dsimp only; rw [gd_ne (show 131 ≠ 113 by decide), gd_ne (show 131 ≠ 137 by decide)]; exact hW.out)))
          | 29, _ =>
            obtain rfl := Option.some.inj ho
            have l28 : L 28 = true := dep_of hd (n := 28) (by decide)
            have e131 : T.getD 131 undef = .pointer (some ⟨(w.heap.size) + 1, 0, none⟩) := hF.out.val 28 131 _ l28 rfl rfl
            have l25 : L 25 = true := dep_of hd (n := 25) (by decide)
            have e128 : T.getD 128 undef = .bool true := hF.out.val 25 128 _ l25 rfl rfl
            obtain ⟨Lc, hLc⟩ := hW.out
            have hcc := (hcl.out W hLc.1.below).2.2.2.1
            clear hLc
            clear hd ho hi hc hLi
            exact st_val (v := .string u) (w' := W) (by rw [want_some (j := 25) (s := 128) rfl rfl e128]; rfl) (by unfold execOp; dsimp only [Act.eval]; simp only [e131]; go_simp) (hK.out _ _ (hF.out.put (k := 29) (s := 132) rfl (by decide) hN (by decide) (fun u_v hu => Option.some.inj (Option.some.inj (show some (some (.string u)) = some (some u_v) from hu))) (by dsimp only; rw [gd_ne (show 132 ≠ 113 by decide), gd_ne (show 132 ≠ 137 by decide)]; exact hW.out)))
          | 30, _ =>
            obtain rfl := Option.some.inj ho
            have l25 : L 25 = true := dep_of hd (n := 25) (by decide)
            have e128 : T.getD 128 undef = .bool true := hF.out.val 25 128 _ l25 rfl rfl
            clear hd ho hi hc hLi
            exact st_val (v := .pointer (some ⟨(w.heap.size) + 1, 1, none⟩)) (w' := W) (by rw [want_some (j := 25) (s := 128) rfl rfl e128]; rfl) (by unfold execOp; dsimp only [Act.eval]; simp only [f4]; go_simp) (hK.out _ _ (hF.out.put (k := 30) (s := 133) rfl (by decide) hN (by decide) (fun u_v hu => Option.some.inj (Option.some.inj (show some (some (.pointer (some ⟨(w.heap.size) + 1, 1, none⟩))) = some (some u_v) from hu))) (by dsimp only; rw [gd_ne (show 133 ≠ 113 by decide), gd_ne (show 133 ≠ 137 by decide)]; exact hW.out)))
          | 31, _ =>
            obtain rfl := Option.some.inj ho
            have l30 : L 30 = true := dep_of hd (n := 30) (by decide)
            have e133 : T.getD 133 undef = .pointer (some ⟨(w.heap.size) + 1, 1, none⟩) := hF.out.val 30 133 _ l30 rfl rfl
            have l25 : L 25 = true := dep_of hd (n := 25) (by decide)
            have e128 : T.getD 128 undef = .bool true := hF.out.val 25 128 _ l25 rfl rfl
            obtain ⟨Lc, hLc⟩ := hW.out
            have hcc := (hcl.out W hLc.1.below).2.2.2.2
            clear hLc
            clear hd ho hi hc hLi
            exact st_val (v := .string s) (w' := W) (by rw [want_some (j := 25) (s := 128) rfl rfl e128]; rfl) (by unfold execOp; dsimp only [Act.eval]; simp only [e133]; go_simp) (hK.out _ _ (hF.out.put (k := 31) (s := 134) rfl (by decide) hN (by decide) (fun u_v hu => Option.some.inj (Option.some.inj (show some (some (.string s)) = some (some u_v) from hu))) (by dsimp only; rw [gd_ne (show 134 ≠ 113 by decide), gd_ne (show 134 ≠ 137 by decide)]; exact hW.out)))
          | 32, _ =>
            obtain rfl := Option.some.inj ho
            have l25 : L 25 = true := dep_of hd (n := 25) (by decide)
            have e128 : T.getD 128 undef = .bool true := hF.out.val 25 128 _ l25 rfl rfl
            clear hd ho hi hc hLi
            exact st_val (v := .pointer (some ⟨ga, 0, none⟩)) (w' := W) (by rw [want_some (j := 25) (s := 128) rfl rfl e128]; rfl) (by unfold execOp; dsimp only [Act.eval]; simp only [f11]; go_simp) (hK.out _ _ (hF.out.put (k := 32) (s := 135) rfl (by decide) hN (by decide) (fun u_v hu => Option.some.inj (Option.some.inj (show some (some (.pointer (some ⟨ga, 0, none⟩))) = some (some u_v) from hu))) (by dsimp only; rw [gd_ne (show 135 ≠ 113 by decide), gd_ne (show 135 ≠ 137 by decide)]; exact hW.out)))
          | 33, _ =>
            obtain rfl := Option.some.inj ho
            have l25 : L 25 = true := dep_of hd (n := 25) (by decide)
            have e128 : T.getD 128 undef = .bool true := hF.out.val 25 128 _ l25 rfl rfl
            clear hd ho hi hc hLi
            exact st_val (v := .int .i64 x1) (w' := W) (by rw [want_some (j := 25) (s := 128) rfl rfl e128]; rfl) (by unfold execOp; dsimp only [Act.eval]; simp only [f12]; go_simp) (hK.out _ _ (hF.out.put (k := 33) (s := 136) rfl (by decide) hN (by decide) (fun u_v hu => Option.some.inj (Option.some.inj (show some (some (.int .i64 x1)) = some (some u_v) from hu))) (by dsimp only; rw [gd_ne (show 136 ≠ 113 by decide), gd_ne (show 136 ≠ 137 by decide)]; exact hW.out)))
          | 34, _ =>
            obtain rfl := Option.some.inj ho
            have l32 : L 32 = true := dep_of hd (n := 32) (by decide)
            have e135 : T.getD 135 undef = .pointer (some ⟨ga, 0, none⟩) := hF.out.val 32 135 _ l32 rfl rfl
            have l33 : L 33 = true := dep_of hd (n := 33) (by decide)
            have e136 : T.getD 136 undef = .int .i64 x1 := hF.out.val 33 136 _ l33 rfl rfl
            have l25 : L 25 = true := dep_of hd (n := 25) (by decide)
            have e128 : T.getD 128 undef = .bool true := hF.out.val 25 128 _ l25 rfl rfl
            obtain ⟨Lc, hLc⟩ := hW.out
            replace hLc := Lib.hid hLc
            have cc := hLc.out.1.pub (by have := hLc.out.2.2.1; have := Bool.toNat_le (L 10); have := Bool.toNat_le (L 34); omega) x1
            rw [hLc.out.2.1.1] at cc
            replace cc := Lib.hid cc
            clear hd ho hi hc
            refine st_call (by rw [want_some (j := 25) (s := 128) rfl rfl e128]; rfl) (by unfold execOp; go_simp) cc.out ?_
            rintro r wz ⟨L', x', rfl, a1, a2, a3, -, -, -⟩
            exact ⟨_, rfl, hK.out _ _ (hF.out.put (k := 34) (s := 137) rfl (by decide) hN (by decide) (fun u hu => by cases hu) ⟨L', a1, hLc.out.2.1.grow a2, (by have h1 := a2.len.2; have h2 := hLc.out.2.2.1; have h3 : (L 34).toNat = 0 := (by rw [hLi]; rfl); show L'.length ≤ 4 + (L 10).toNat + 1; omega), (fun h1 h2 => by obtain ⟨x, e, mm⟩ := hLc.out.2.2.2.1 h1 h2; exact ⟨x, (gd_ne (show 137 ≠ 113 by decide)).trans e, mm.grow a2⟩), fun _ _ => ⟨x', gd_eq (by rw [hF.out.size, hN]; decide), a3⟩⟩)⟩
          | 35, _ =>
            obtain rfl := Option.some.inj ho
            have l26 : L 26 = true := dep_of hd (n := 26) (by decide)
            have e129 : T.getD 129 undef = .pointer none := hF.out.val 26 129 _ l26 rfl rfl
            have l27 : L 27 = true := dep_of hd (n := 27) (by decide)
            have e130 : T.getD 130 undef = .pointer (some ⟨ga, 0, none⟩) := hF.out.val 27 130 _ l27 rfl rfl
            have l29 : L 29 = true := dep_of hd (n := 29) (by decide)
            have e132 : T.getD 132 undef = .string u := hF.out.val 29 132 _ l29 rfl rfl
            have l31 : L 31 = true := dep_of hd (n := 31) (by decide)
            have e134 : T.getD 134 undef = .string s := hF.out.val 31 134 _ l31 rfl rfl
            have l34 : L 34 = true := dep_of hd (n := 34) (by decide)
            have l25 : L 25 = true := dep_of hd (n := 25) (by decide)
            have e128 : T.getD 128 undef = .bool true := hF.out.val 25 128 _ l25 rfl rfl
            obtain ⟨Lc, hLc⟩ := hW.out
            replace hLc := Lib.hid hLc
            obtain ⟨x137, e137, m137⟩ := hLc.out.2.2.2.2 l34 hLi
            have cc := Lib.hid (cH3.out W Lc x137 hLc.out.1 m137)
            clear m137
            clear hd ho hi hc
            refine st_call (by rw [want_some (j := 25) (s := 128) rfl rfl e128]; rfl) (by unfold execOp; go_simp) cc.out ?_
            rintro r wz ⟨rfl, hb4⟩
            exact ⟨_, rfl, hK.out _ _ (hF.out.put (k := 35) (s := 138) rfl (by decide) hN (by decide) (fun u_v hu => Option.some.inj (Option.some.inj (show some (some (.bool false)) = some (some u_v) from hu))) ⟨Lc, hLc.out.1.keep hb4, hLc.out.2.1, hLc.out.2.2.1, (fun h1 h2 => by obtain ⟨x, e, mm⟩ := hLc.out.2.2.2.1 h1 h2; exact ⟨x, (gd_ne (show 138 ≠ 113 by decide)).trans e, mm⟩), fun _ h => absurd h (by simp)⟩)⟩
          | 36, _ =>
            obtain rfl := Option.some.inj ho
            have l35 : L 35 = true := dep_of hd (n := 35) (by decide)
            have e138 : T.getD 138 undef = .bool false := hF.out.val 35 138 _ l35 rfl rfl
            have l25 : L 25 = true := dep_of hd (n := 25) (by decide)
            have e128 : T.getD 128 undef = .bool true := hF.out.val 25 128 _ l25 rfl rfl
            clear hd ho hi hc hLi
            exact st_val (v := .bool true) (w' := W) (by rw [want_some (j := 25) (s := 128) rfl rfl e128]; rfl) (by unfold execOp; dsimp only [Act.eval]; simp only [e138]; go_simp) (hK.out _ _ (hF.out.put (k := 36) (s := 139) rfl (by decide) hN (by decide) (fun u_v hu => Option.some.inj (Option.some.inj (show some (some (.bool true)) = some (some u_v) from hu))) (by dsimp only; rw [gd_ne (show 139 ≠ 113 by decide), gd_ne (show 139 ≠ 137 by decide)]; exact hW.out)))
          | 37, _ =>
            obtain rfl := Option.some.inj ho
            have l25 : L 25 = true := dep_of hd (n := 25) (by decide)
            have e128 : T.getD 128 undef = .bool true := hF.out.val 25 128 _ l25 rfl rfl
            have l36 : L 36 = true := dep_of hd (n := 36) (by decide)
            have e139 : T.getD 139 undef = .bool true := hF.out.val 36 139 _ l36 rfl rfl
            clear hd ho hi hc hLi
            exact st_val (v := .bool true) (w' := W) (want_none rfl) (by unfold execOp; dsimp only [Act.eval]; simp only [e128, e139]; go_simp) (hK.out _ _ (hF.out.put (k := 37) (s := 140) rfl (by decide) hN (by decide) (fun u_v hu => Option.some.inj (Option.some.inj (show some (some (.bool true)) = some (some u_v) from hu))) (by dsimp only; rw [gd_ne (show 140 ≠ 113 by decide), gd_ne (show 140 ≠ 137 by decide)]; exact hW.out)))
          | 38, _ =>
            obtain rfl := Option.some.inj ho
            have l37 : L 37 = true := dep_of hd (n := 37) (by decide)
            have e140 : T.getD 140 undef = .bool true := hF.out.val 37 140 _ l37 rfl rfl
            clear hd ho hi hc hLi
            exact st_val (v := .bool true) (w' := W) (want_none rfl) (by unfold execOp; dsimp only [Act.eval]; simp only [e140]; go_simp) (hK.out _ _ (hF.out.put (k := 38) (s := 141) rfl (by decide) hN (by decide) (fun u_v hu => Option.some.inj (Option.some.inj (show some (some (.bool true)) = some (some u_v) from hu))) (by dsimp only; rw [gd_ne (show 141 ≠ 113 by decide), gd_ne (show 141 ≠ 137 by decide)]; exact hW.out)))
          | 39, _ =>
            obtain rfl := Option.some.inj ho
            have l38 : L 38 = true := dep_of hd (n := 38) (by decide)
            have e141 : T.getD 141 undef = .bool true := hF.out.val 38 141 _ l38 rfl rfl
            clear hd ho hi hc hLi
            exact st_val (v := .pointer none) (w' := W) (by rw [want_some (j := 38) (s := 141) rfl rfl e141]; rfl) (by unfold execOp; dsimp only [Act.eval]; simp only [f13]; go_simp) (hK.out _ _ (hF.out.put (k := 39) (s := 142) rfl (by decide) hN (by decide) (fun u_v hu => Option.some.inj (Option.some.inj (show some (some (.pointer none)) = some (some u_v) from hu))) (by dsimp only; rw [gd_ne (show 142 ≠ 113 by decide), gd_ne (show 142 ≠ 137 by decide)]; exact hW.out)))
          | 40, _ =>
            obtain rfl := Option.some.inj ho
            have l39 : L 39 = true := dep_of hd (n := 39) (by decide)
            have e142 : T.getD 142 undef = .pointer none := hF.out.val 39 142 _ l39 rfl rfl
            have l38 : L 38 = true := dep_of hd (n := 38) (by decide)
            have e141 : T.getD 141 undef = .bool true := hF.out.val 38 141 _ l38 rfl rfl
            obtain ⟨Lc, hLc⟩ := hW.out
            replace hLc := Lib.hid hLc
            have cc := Lib.hid (full_nil W)
            clear hd ho hi hc hLi
            refine st_call (by rw [want_some (j := 38) (s := 141) rfl rfl e141]; rfl) (by unfold execOp; go_simp) cc.out ?_
            rintro r wz ⟨rfl, hb4⟩
            exact ⟨_, rfl, hK.out _ _ (hF.out.put (k := 40) (s := 143) rfl (by decide) hN (by decide) (fun u_v hu => Option.some.inj (Option.some.inj (show some (some (.bool true)) = some (some u_v) from hu))) (by dsimp only; rw [gd_ne (show 143 ≠ 113 by decide), gd_ne (show 143 ≠ 137 by decide)]; exact ⟨Lc, hLc.out.1.keep hb4, hLc.out.2⟩))⟩
          | 41, _ =>
            obtain rfl := Option.some.inj ho
            have l38 : L 38 = true := dep_of hd (n := 38) (by decide)
            have e141 : T.getD 141 undef = .bool true := hF.out.val 38 141 _ l38 rfl rfl
            have l40 : L 40 = true := dep_of hd (n := 40) (by decide)
            have e143 : T.getD 143 undef = .bool true := hF.out.val 40 143 _ l40 rfl rfl
            clear hd ho hi hc hLi
            exact st_val (v := .bool true) (w' := W) (want_none rfl) (by unfold execOp; dsimp only [Act.eval]; simp only [e141, e143]; go_simp) (hK.out _ _ (hF.out.put (k := 41) (s := 144) rfl (by decide) hN (by decide) (fun u_v hu => Option.some.inj (Option.some.inj (show some (some (.bool true)) = some (some u_v) from hu))) (by dsimp only; rw [gd_ne (show 144 ≠ 113 by decide), gd_ne (show 144 ≠ 137 by decide)]; exact hW.out)))
          | 42, _ =>
            obtain rfl := Option.some.inj ho
            have l41 : L 41 = true := dep_of hd (n := 41) (by decide)
            have e144 : T.getD 144 undef = .bool true := hF.out.val 41 144 _ l41 rfl rfl
            clear hd ho hi hc hLi
            exact st_val (v := .bool true) (w' := W) (want_none rfl) (by unfold execOp; dsimp only [Act.eval]; simp only [e144]; go_simp) (hK.out _ _ (hF.out.put (k := 42) (s := 145) rfl (by decide) hN (by decide) (fun u_v hu => Option.some.inj (Option.some.inj (show some (some (.bool true)) = some (some u_v) from hu))) (by dsimp only; rw [gd_ne (show 145 ≠ 113 by decide), gd_ne (show 145 ≠ 137 by decide)]; exact hW.out)))
          | 43, _ =>
            obtain rfl := Option.some.inj ho
            have l42 : L 42 = true := dep_of hd (n := 42) (by decide)
            have e145 : T.getD 145 undef = .bool true := hF.out.val 42 145 _ l42 rfl rfl
            clear hd ho hi hc hLi
            exact st_val (v := .pointer none) (w' := W) (by rw [want_some (j := 42) (s := 145) rfl rfl e145]; rfl) (by unfold execOp; dsimp only [Act.eval]; simp only [f13]; go_simp) (hK.out _ _ (hF.out.put (k := 43) (s := 146) rfl (by decide) hN (by decide) (fun u_v hu => Option.some.inj (Option.some.inj (show some (some (.pointer none)) = some (some u_v) from hu))) (by dsimp only; rw [gd_ne (show 146 ≠ 113 by decide), gd_ne (show 146 ≠ 137 by decide)]; exact hW.out)))
          | 44, _ =>
            obtain rfl := Option.some.inj ho
            have l43 : L 43 = true := dep_of hd (n := 43) (by decide)
            have e146 : T.getD 146 undef = .pointer none := hF.out.val 43 146 _ l43 rfl rfl
            have l42 : L 42 = true := dep_of hd (n := 42) (by decide)
            have e145 : T.getD 145 undef = .bool true := hF.out.val 42 145 _ l42 rfl rfl
            obtain ⟨Lc, hLc⟩ := hW.out
            replace hLc := Lib.hid hLc
            have cc := Lib.hid (fail_nil W)
            clear hd ho hi hc hLi
            refine st_call (by rw [want_some (j := 42) (s := 145) rfl rfl e145]; rfl) (by unfold execOp; go_simp) cc.out ?_
            rintro r wz ⟨rfl, hb4⟩
            exact ⟨_, rfl, hK.out _ _ (hF.out.put (k := 44) (s := 147) rfl (by decide) hN (by decide) (fun u_v hu => Option.some.inj (Option.some.inj (show some (some (.bool true)) = some (some u_v) from hu))) (by dsimp only; rw [gd_ne (show 147 ≠ 113 by decide), gd_ne (show 147 ≠ 137 by decide)]; exact ⟨Lc, hLc.out.1.keep hb4, hLc.out.2⟩))⟩
          | 45, _ =>
            obtain rfl := Option.some.inj ho
            have l42 : L 42 = true := dep_of hd (n := 42) (by decide)
            have e145 : T.getD 145 undef = .bool true := hF.out.val 42 145 _ l42 rfl rfl
            have l44 : L 44 = true := dep_of hd (n := 44) (by decide)
            have e147 : T.getD 147 undef = .bool true := hF.out.val 44 147 _ l44 rfl rfl
            clear hd ho hi hc hLi
            exact st_val (v := .bool true) (w' := W) (want_none rfl) (by unfold execOp; dsimp only [Act.eval]; simp only [e145, e147]; go_simp) (hK.out _ _ (hF.out.put (k := 45) (s := 148) rfl (by decide) hN (by decide) (fun u_v hu => Option.some.inj (Option.some.inj (show some (some (.bool true)) = some (some u_v) from hu))) (by dsimp only; rw [gd_ne (show 148 ≠ 113 by decide), gd_ne (show 148 ≠ 137 by decide)]; exact hW.out)))
          | 46, _ =>
            obtain rfl := Option.some.inj ho
            have l45 : L 45 = true := dep_of hd (n := 45) (by decide)
            have e148 : T.getD 148 undef = .bool true := hF.out.val 45 148 _ l45 rfl rfl
            clear hd ho hi hc hLi
            exact st_val (v := .bool true) (w' := W) (want_none rfl) (by unfold execOp; dsimp only [Act.eval]; simp only [e148]; go_simp) (hK.out _ _ (hF.out.put (k := 46) (s := 149) rfl (by decide) hN (by decide) (fun u_v hu => Option.some.inj (Option.some.inj (show some (some (.bool true)) = some (some u_v) from hu))) (by dsimp only; rw [gd_ne (show 149 ≠ 113 by decide), gd_ne (show 149 ≠ 137 by decide)]; exact hW.out)))
          | 47, _ =>
            obtain rfl := Option.some.inj ho
            have l46 : L 46 = true := dep_of hd (n := 46) (by decide)
            have e149 : T.getD 149 undef = .bool true := hF.out.val 46 149 _ l46 rfl rfl
            clear hd ho hi hc hLi
            exact st_val (v := .pointer none) (w' := W) (by rw [want_some (j := 46) (s := 149) rfl rfl e149]; rfl) (by unfold execOp; dsimp only [Act.eval]; simp only [f13]; go_simp) (hK.out _ _ (hF.out.put (k := 47) (s := 150) rfl (by decide) hN (by decide) (fun u_v hu => Option.some.inj (Option.some.inj (show some (some (.pointer none)) = some (some u_v) from hu))) (by dsimp only; rw [gd_ne (show 150 ≠ 113 by decide), gd_ne (show 150 ≠ 137 by decide)]; exact hW.out)))
          | 48, _ =>
            obtain rfl := Option.some.inj ho
            have l47 : L 47 = true := dep_of hd (n := 47) (by decide)
            have e150 : T.getD 150 undef = .pointer none := hF.out.val 47 150 _ l47 rfl rfl
            have l46 : L 46 = true := dep_of hd (n := 46) (by decide)
            have e149 : T.getD 149 undef = .bool true := hF.out.val 46 149 _ l46 rfl rfl
            obtain ⟨Lc, hLc⟩ := hW.out
            replace hLc := Lib.hid hLc
            have cc := Lib.hid (failures_nil W)
            clear hd ho hi hc hLi
            refine st_call (by rw [want_some (j := 46) (s := 149) rfl rfl e149]; rfl) (by unfold execOp; go_simp) cc.out ?_
            rintro r wz ⟨rfl, rfl⟩
            exact ⟨_, rfl, hK.out _ _ (hF.out.put (k := 48) (s := 151) rfl (by decide) hN (by decide) (fun u_v hu => Option.some.inj (Option.some.inj (show some (some (.int .i64 0)) = some (some u_v) from hu))) (by dsimp only; rw [gd_ne (show 151 ≠ 113 by decide), gd_ne (show 151 ≠ 137 by decide)]; exact ⟨Lc, hLc.out⟩))⟩
          | 49, _ =>
            obtain rfl := Option.some.inj ho
            have l48 : L 48 = true := dep_of hd (n := 48) (by decide)
            have e151 : T.getD 151 undef = .int .i64 0 := hF.out.val 48 151 _ l48 rfl rfl
            have l46 : L 46 = true := dep_of hd (n := 46) (by decide)
            have e149 : T.getD 149 undef = .bool true := hF.out.val 46 149 _ l46 rfl rfl
            clear hd ho hi hc hLi
            exact st_val (v := .bool true) (w' := W) (by rw [want_some (j := 46) (s := 149) rfl rfl e149]; rfl) (by unfold execOp; dsimp only [Act.eval]; simp only [e151]; go_simp) (hK.out _ _ (hF.out.put (k := 49) (s := 152) rfl (by decide) hN (by decide) (fun u_v hu => Option.some.inj (Option.some.inj (show some (some (.bool true)) = some (some u_v) from hu))) (by dsimp only; rw [gd_ne (show 152 ≠ 113 by decide), gd_ne (show 152 ≠ 137 by decide)]; exact hW.out)))
          | 50, _ =>
            obtain rfl := Option.some.inj ho
            have l46 : L 46 = true := dep_of hd (n := 46) (by decide)
            have e149 : T.getD 149 undef = .bool true := hF.out.val 46 149 _ l46 rfl rfl
            have l49 : L 49 = true := dep_of hd (n := 49) (by decide)
            have e152 : T.getD 152 undef = .bool true := hF.out.val 49 152 _ l49 rfl rfl
            clear hd ho hi hc hLi
            exact st_val (v := .bool true) (w' := W) (want_none rfl) (by unfold execOp; dsimp only [Act.eval]; simp only [e149, e152]; go_simp) (hK.out _ _ (hF.out.put (k := 50) (s := 153) rfl (by decide) hN (by decide) (fun u_v hu => Option.some.inj (Option.some.inj (show some (some (.bool true)) = some (some u_v) from hu))) (by dsimp only; rw [gd_ne (show 153 ≠ 113 by decide), gd_ne (show 153 ≠ 137 by decide)]; exact hW.out)))
          | 51, _ =>
            obtain rfl := Option.some.inj ho
            have l50 : L 50 = true := dep_of hd (n := 50) (by decide)
            have e153 : T.getD 153 undef = .bool true := hF.out.val 50 153 _ l50 rfl rfl
            clear hd ho hi hc hLi
            exact st_val (v := .bool true) (w' := W) (want_none rfl) (by unfold execOp; dsimp only [Act.eval]; simp only [e153]; go_simp) (hK.out _ _ (hF.out.put (k := 51) (s := 154) rfl (by decide) hN (by decide) (fun u_v hu => Option.some.inj (Option.some.inj (show some (some (.bool true)) = some (some u_v) from hu))) (by dsimp only; rw [gd_ne (show 154 ≠ 113 by decide), gd_ne (show 154 ≠ 137 by decide)]; exact hW.out)))
          | 52, _ =>
            obtain rfl := Option.some.inj ho
            have l51 : L 51 = true := dep_of hd (n := 51) (by decide)
            have e154 : T.getD 154 undef = .bool true := hF.out.val 51 154 _ l51 rfl rfl
            clear hd ho hi hc hLi
            exact st_val (v := .pointer none) (w' := W) (by rw [want_some (j := 51) (s := 154) rfl rfl e154]; rfl) (by unfold execOp; dsimp only [Act.eval]; simp only [f13]; go_simp) (hK.out _ _ (hF.out.put (k := 52) (s := 155) rfl (by decide) hN (by decide) (fun u_v hu => Option.some.inj (Option.some.inj (show some (some (.pointer none)) = some (some u_v) from hu))) (by dsimp only; rw [gd_ne (show 155 ≠ 113 by decide), gd_ne (show 155 ≠ 137 by decide)]; exact hW.out)))
          | 53, _ =>
            obtain rfl := Option.some.inj ho
            have l52 : L 52 = true := dep_of hd (n := 52) (by decide)
            have e155 : T.getD 155 undef = .pointer none := hF.out.val 52 155 _ l52 rfl rfl
            have l51 : L 51 = true := dep_of hd (n := 51) (by decide)
            have e154 : T.getD 154 undef = .bool true := hF.out.val 51 154 _ l51 rfl rfl
            obtain ⟨Lc, hLc⟩ := hW.out
            replace hLc := Lib.hid hLc
            have cc := Lib.hid (algs_nil W)
            clear hd ho hi hc hLi
            refine st_call (by rw [want_some (j := 51) (s := 154) rfl rfl e154]; rfl) (by unfold execOp; go_simp) cc.out ?_
            rintro r wz ⟨rfl, rfl⟩
            exact ⟨_, rfl, hK.out _ _ (hF.out.put (k := 53) (s := 156) rfl (by decide) hN (by decide) (fun u_v hu => Option.some.inj (Option.some.inj (show some (some (.slice none 0 0)) = some (some u_v) from hu))) (by dsimp only; rw [gd_ne (show 156 ≠ 113 by decide), gd_ne (show 156 ≠ 137 by decide)]; exact ⟨Lc, hLc.out⟩))⟩
          | 54, _ =>
            obtain rfl := Option.some.inj ho
            have l53 : L 53 = true := dep_of hd (n := 53) (by decide)
            have e156 : T.getD 156 undef = .slice none 0 0 := hF.out.val 53 156 _ l53 rfl rfl
            have l51 : L 51 = true := dep_of hd (n := 51) (by decide)
            have e154 : T.getD 154 undef = .bool true := hF.out.val 51 154 _ l51 rfl rfl
            clear hd ho hi hc hLi
            exact st_val (v := .int .i64 0) (w' := W) (by rw [want_some (j := 51) (s := 154) rfl rfl e154]; rfl) (by unfold execOp; go_simp) (hK.out _ _ (hF.out.put (k := 54) (s := 157) rfl (by decide) hN (by decide) (fun u_v hu => Option.some.inj (Option.some.inj (show some (some (.int .i64 0)) = some (some u_v) from hu))) (by dsimp only; rw [gd_ne (show 157 ≠ 113 by decide), gd_ne (show 157 ≠ 137 by decide)]; exact hW.out)))
          | 55, _ =>
            obtain rfl := Option.some.inj ho
            have l54 : L 54 = true := dep_of hd (n := 54) (by decide)
            have e157 : T.getD 157 undef = .int .i64 0 := hF.out.val 54 157 _ l54 rfl rfl
            have l51 : L 51 = true := dep_of hd (n := 51) (by decide)
            have e154 : T.getD 154 undef = .bool true := hF.out.val 51 154 _ l51 rfl rfl
            clear hd ho hi hc hLi
            exact st_val (v := .bool true) (w' := W) (by rw [want_some (j := 51) (s := 154) rfl rfl e154]; rfl) (by unfold execOp; dsimp only [Act.eval]; simp only [e157]; go_simp) (hK.out _ _ (hF.out.put (k := 55) (s := 158) rfl (by decide) hN (by decide) (fun u_v hu => Option.some.inj (Option.some.inj (show some (some (.bool true)) = some (some u_v) from hu))) (by dsimp only; rw [gd_ne (show 158 ≠ 113 by decide), gd_ne (show 158 ≠ 137 by decide)]; exact hW.out)))
          | 56, _ =>
            obtain rfl := Option.some.inj ho
            have l51 : L 51 = true := dep_of hd (n := 51) (by decide)
            have e154 : T.getD 154 undef = .bool true := hF.out.val 51 154 _ l51 rfl rfl
            have l55 : L 55 = true := dep_of hd (n := 55) (by decide)
            have e158 : T.getD 158 undef = .bool true := hF.out.val 55 158 _ l55 rfl rfl
            clear hd ho hi hc hLi
            exact st_val (v := .bool true) (w' := W) (want_none rfl) (by unfold execOp; dsimp only [Act.eval]; simp only [e154, e158]; go_simp) (hK.out _ _ (hF.out.put (k := 56) (s := 159) rfl (by decide) hN (by decide) (fun u_v hu => Option.some.inj (Option.some.inj (show some (some (.bool true)) = some (some u_v) from hu))) (by dsimp only; rw [gd_ne (show 159 ≠ 113 by decide), gd_ne (show 159 ≠ 137 by decide)]; exact hW.out)))
          | 57, _ =>
            obtain rfl := Option.some.inj ho
            have l56 : L 56 = true := dep_of hd (n := 56) (by decide)
            have e159 : T.getD 159 undef = .bool true := hF.out.val 56 159 _ l56 rfl rfl
            clear hd ho hi hc hLi
            exact st_val (v := .bool true) (w' := W) (want_none rfl) (by unfold execOp; dsimp only [Act.eval]; simp only [e159]; go_simp) (hK.out _ _ (hF.out.put (k := 57) (s := 6) rfl (by decide) hN (by decide) (fun u_v hu => Option.some.inj (Option.some.inj (show some (some (.bool true)) = some (some u_v) from hu))) (by dsimp only; rw [gd_ne (show 6 ≠ 113 by decide), gd_ne (show 6 ≠ 137 by decide)]; exact hW.out)))
        case hdone =>
          intro L T W2 hF hW hall
          obtain ⟨y113, h113⟩ : ∃ x, T.getD 113 undef = x := ⟨_, rfl⟩
          obtain ⟨y137, h137⟩ : ∃ x, T.getD 137 undef = x := ⟨_, rfl⟩
          obtain ⟨L12, hS12, -⟩ := hW
          have hB12 := Lib.hid (hB3.out.trans (hS12.below.mono hB3.out.size))
          clear hS12
          have hT : T = #[.agg #[.slice A n c, .slice B m d, .int .i64 l], .agg #[.string u, .string s], .int .i64 who, .pointer (some ⟨(w.heap.size), 0, none⟩), .pointer (some ⟨(w.heap.size) + 1, 0, none⟩), undef, .bool true, .pointer (some ⟨g, 0, none⟩), .nilIface, undef, undef, .pointer (some ⟨ga, 0, none⟩), .int .i64 x1, .pointer none, .agg #[.slice A n c, .slice B m d, .int .i64 l], .bool true, .bool false, .bool false, .pointer (some ⟨(w.heap.size) + 1, 0, none⟩), .string u, .int .i64 u.size, .bool false, .bool false, .bool false, .pointer (some ⟨(w.heap.size) + 1, 1, none⟩), .string s, .int .i64 s.size, .bool false, .bool false, undef, .tuple #[.pointer (some ⟨g, 0, none⟩), .nilIface], .pointer (some ⟨(w.heap.size), 0, none⟩), .slice A n c, .pointer (some ⟨(w.heap.size), 1, none⟩), .slice B m d, .pointer (some ⟨(w.heap.size), 2, none⟩), .int .i64 l, .tuple #[.pointer (some ⟨g, 0, none⟩), .nilIface], .pointer (some ⟨g, 0, none⟩), .nilIface, .nilIface, .bool false, undef, undef, undef, undef, undef, undef, undef, undef, undef, undef, undef, undef, undef, undef, undef, .pointer (some ⟨ga, 0, none⟩), .pointer (some ⟨ga, 0, none⟩), .int .i64 who, .int .i64 x1, .pointer (some ⟨g, 0, none⟩), .pointer (some ⟨ga, 0, none⟩), .pointer (some ⟨(w.heap.size) + 1, 0, none⟩), .string u, .pointer (some ⟨(w.heap.size) + 1, 1, none⟩), .string s, .int .i64 x1, .bool false, .bool false, .pointer (some ⟨g, 0, none⟩), .pointer (some ⟨ga, 0, none⟩), .pointer (some ⟨(w.heap.size) + 1, 0, none⟩), .string u, .pointer (some ⟨(w.heap.size) + 1, 1, none⟩), .string s, .bool false, .bool false, .bool false, .pointer (some ⟨g, 0, none⟩), .pointer (some ⟨ga, 0, none⟩), .pointer (some ⟨(w.heap.size) + 1, 0, none⟩), .string u, .pointer (some ⟨(w.heap.size) + 1, 1, none⟩), .string s, .pointer (some ⟨ga, 0, none⟩), .pointer (some ⟨ga, 0, none⟩), .int .i64 x1, y88, y89, .bool false, .bool false, .bool false, .pointer (some ⟨g, 0, none⟩), .pointer (some ⟨(w.heap.size) + 1, 0, none⟩), .string u, .pointer (some ⟨(w.heap.size) + 1, 1, none⟩), .string s, .pointer (some ⟨ga, 0, none⟩), .int .i64 x1, y100, .bool false, .bool false, .bool true, .bool true, .pointer (some ⟨g, 0, none⟩), .pointer (some ⟨ga, 0, none⟩), .pointer (some ⟨(w.heap.size) + 1, 0, none⟩), .string u, .pointer (some ⟨(w.heap.size) + 1, 1, none⟩), .string s, .pointer (some ⟨ga, 0, none⟩), .int .i64 x1, y113, .bool rb, .pointer (some ⟨(w.heap.size), 0, none⟩), .slice A n c, .pointer (some ⟨(w.heap.size), 1, none⟩), .slice B m d, .pointer (some ⟨(w.heap.size) + 1, 0, none⟩), .string u, .pointer (some ⟨(w.heap.size) + 1, 1, none⟩), .string s, .int .i64 who, .string kt, .bool rb, .bool true, .bool true, .bool true, .pointer none, .pointer (some ⟨ga, 0, none⟩), .pointer (some ⟨(w.heap.size) + 1, 0, none⟩), .string u, .pointer (some ⟨(w.heap.size) + 1, 1, none⟩), .string s, .pointer (some ⟨ga, 0, none⟩), .int .i64 x1, y137, .bool false, .bool true, .bool true, .bool true, .pointer none, .bool true, .bool true, .bool true, .pointer none, .bool true, .bool true, .bool true, .pointer none, .int .i64 0, .bool true, .bool true, .bool true, .pointer none, .slice none 0 0, .int .i64 0, .bool true, .bool true] := (hF.fin [(103, .bool true), (104, .bool true), (105, .pointer (some ⟨g, 0, none⟩)), (106, .pointer (some ⟨ga, 0, none⟩)), (107, .pointer (some ⟨(w.heap.size) + 1, 0, none⟩)), (108, .string u), (109, .pointer (some ⟨(w.heap.size) + 1, 1, none⟩)), (110, .string s), (111, .pointer (some ⟨ga, 0, none⟩)), (112, .int .i64 x1), (113, y113), (114, .bool rb), (115, .pointer (some ⟨(w.heap.size), 0, none⟩)), (116, .slice A n c), (117, .pointer (some ⟨(w.heap.size), 1, none⟩)), (118, .slice B m d), (119, .pointer (some ⟨(w.heap.size) + 1, 0, none⟩)), (120, .string u), (121, .pointer (some ⟨(w.heap.size) + 1, 1, none⟩)), (122, .string s), (123, .int .i64 who), (124, .string kt), (125, .bool rb), (126, .bool true), (127, .bool true), (128, .bool true), (129, .pointer none), (130, .pointer (some ⟨ga, 0, none⟩)), (131, .pointer (some ⟨(w.heap.size) + 1, 0, none⟩)), (132, .string u), (133, .pointer (some ⟨(w.heap.size) + 1, 1, none⟩)), (134, .string s), (135, .pointer (some ⟨ga, 0, none⟩)), (136, .int .i64 x1), (137, y137), (138, .bool false), (139, .bool true), (140, .bool true), (141, .bool true), (142, .pointer none), (143, .bool true), (144, .bool true), (145, .bool true), (146, .pointer none), (147, .bool true), (148, .bool true), (149, .bool true), (150, .pointer none), (151, .int .i64 0), (152, .bool true), (153, .bool true), (154, .bool true), (155, .pointer none), (156, .slice none 0 0), (157, .int .i64 0), (158, .bool true), (159, .bool true), (6, .bool true)] [103, 104, 105, 106, 107, 108, 109, 110, 111, 112, 113, 114, 115, 116, 117, 118, 119, 120, 121, 122, 123, 124, 125, 126, 127, 128, 129, 130, 131, 132, 133, 134, 135, 136, 137, 138, 139, 140, 141, 142, 143, 144, 145, 146, 147, 148, 149, 150, 151, 152, 153, 154, 155, 156, 157, 158, 159, 6] rfl (List.forall_mem_cons.2 ⟨hF.val 0 _ _ (hall 0 (show 0 < 58 by decide)) rfl rfl, (List.forall_mem_cons.2 ⟨hF.val 1 _ _ (hall 1 (show 1 < 58 by decide)) rfl rfl, (List.forall_mem_cons.2 ⟨hF.val 2 _ _ (hall 2 (show 2 < 58 by decide)) rfl rfl, (List.forall_mem_cons.2 ⟨hF.val 3 _ _ (hall 3 (show 3 < 58 by decide)) rfl rfl, (List.forall_mem_cons.2 ⟨hF.val 4 _ _ (hall 4 (show 4 < 58 by decide)) rfl rfl, (List.forall_mem_cons.2 ⟨hF.val 5 _ _ (hall 5 (show 5 < 58 by decide)) rfl rfl, (List.forall_mem_cons.2 ⟨hF.val 6 _ _ (hall 6 (show 6 < 58 by decide)) rfl rfl, (List.forall_mem_cons.2 ⟨hF.val 7 _ _ (hall 7 (show 7 < 58 by decide)) rfl rfl, (List.forall_mem_cons.2 ⟨hF.val 8 _ _ (hall 8 (show 8 < 58 by decide)) rfl rfl, (List.forall_mem_cons.2 ⟨hF.val 9 _ _ (hall 9 (show 9 < 58 by decide)) rfl rfl, (List.forall_mem_cons.2 ⟨h113, (List.forall_mem_cons.2 ⟨hF.val 11 _ _ (hall 11 (show 11 < 58 by decide)) rfl rfl, (List.forall_mem_cons.2 ⟨hF.val 12 _ _ (hall 12 (show 12 < 58 by decide)) rfl rfl, (List.forall_mem_cons.2 ⟨hF.val 13 _ _ (hall 13 (show 13 < 58 by decide)) rfl rfl, (List.forall_mem_cons.2 ⟨hF.val 14 _ _ (hall 14 (show 14 < 58 by decide)) rfl rfl, (List.forall_mem_cons.2 ⟨hF.val 15 _ _ (hall 15 (show 15 < 58 by decide)) rfl rfl, (List.forall_mem_cons.2 ⟨hF.val 16 _ _ (hall 16 (show 16 < 58 by decide)) rfl rfl, (List.forall_mem_cons.2 ⟨hF.val 17 _ _ (hall 17 (show 17 < 58 by decide)) rfl rfl, (List.forall_mem_cons.2 ⟨hF.val 18 _ _ (hall 18 (show 18 < 58 by decide)) rfl rfl, (List.forall_mem_cons.2 ⟨hF.val 19 _ _ (hall 19 (show 19 < 58 by decide)) rfl rfl, (List.forall_mem_cons.2 ⟨hF.val 20 _ _ (hall 20 (show 20 < 58 by decide)) rfl rfl, (List.forall_mem_cons.2 ⟨hF.val 21 _ _ (hall 21 (show 21 < 58 by decide)) rfl rfl, (List.forall_mem_cons.2 ⟨hF.val 22 _ _ (hall 22 (show 22 < 58 by decide)) rfl rfl, (List.forall_mem_cons.2 ⟨hF.val 23 _ _ (hall 23 (show 23 < 58 by decide)) rfl rfl, (List.forall_mem_cons.2 ⟨hF.val 24 _ _ (hall 24 (show 24 < 58 by decide)) rfl rfl, (List.forall_mem_cons.2 ⟨hF.val 25 _ _ (hall 25 (show 25 < 58 by decide)) rfl rfl, (List.forall_mem_cons.2 ⟨hF.val 26 _ _ (hall 26 (show 26 < 58 by decide)) rfl rfl, (List.forall_mem_cons.2 ⟨hF.val 27 _ _ (hall 27 (show 27 < 58 by decide)) rfl rfl, (List.forall_mem_cons.2 ⟨hF.val 28 _ _ (hall 28 (show 28 < 58 by decide)) rfl rfl, (List.forall_mem_cons.2 ⟨hF.val 29 _ _ (hall 29 (show 29 < 58 by decide)) rfl rfl, (List.forall_mem_cons.2 ⟨hF.val 30 _ _ (hall 30 (show 30 < 58 by decide)) rfl rfl, (List.forall_mem_cons.2 ⟨hF.val 31 _ _ (hall 31 (show 31 < 58 by decide)) rfl rfl, (List.forall_mem_cons.2 ⟨hF.val 32 _ _ (hall 32 (show 32 < 58 by decide)) rfl rfl, (List.forall_mem_cons.2 ⟨hF.val 33 _ _ (hall 33 (show 33 < 58 by decide)) rfl rfl, (List.forall_mem_cons.2 ⟨h137, (List.forall_mem_cons.2 ⟨hF.val 35 _ _ (hall 35 (show 35 < 58 by decide)) rfl rfl, (List.forall_mem_cons.2 ⟨hF.val 36 _ _ (hall 36 (show 36 < 58 by decide)) rfl rfl, (List.forall_mem_cons.2 ⟨hF.val 37 _ _ (hall 37 (show 37 < 58 by decide)) rfl rfl, (List.forall_mem_cons.2 ⟨hF.val 38 _ _ (hall 38 (show 38 < 58 by decide)) rfl rfl, (List.forall_mem_cons.2 ⟨hF.val 39 _ _ (hall 39 (show 39 < 58 by decide)) rfl rfl, (List.forall_mem_cons.2 ⟨hF.val 40 _ _ (hall 40 (show 40 < 58 by decide)) rfl rfl, (List.forall_mem_cons.2 ⟨hF.val 41 _ _ (hall 41 (show 41 < 58 by decide)) rfl rfl, (List.forall_mem_cons.2 ⟨hF.val 42 _ _ (hall 42 (show 42 < 58 by decide)) rfl rfl, (List.forall_mem_cons.2 ⟨hF.val 43 _ _ (hall 43 (show 43 < 58 by decide)) rfl rfl, (List.forall_mem_cons.2 ⟨hF.val 44 _ _ (hall 44 (show 44 < 58 by decide)) rfl rfl, (List.forall_mem_cons.2 ⟨hF.val 45 _ _ (hall 45 (show 45 < 58 by decide)) rfl rfl, (List.forall_mem_cons.2 ⟨hF.val 46 _ _ (hall 46 (show 46 < 58 by decide)) rfl rfl, (List.forall_mem_cons.2 ⟨hF.val 47 _ _ (hall 47 (show 47 < 58 by decide)) rfl rfl, (List.forall_mem_cons.2 ⟨hF.val 48 _ _ (hall 48 (show 48 < 58 by decide)) rfl rfl, (List.forall_mem_cons.2 ⟨hF.val 49 _ _ (hall 49 (show 49 < 58 by decide)) rfl rfl, (List.forall_mem_cons.2 ⟨hF.val 50 _ _ (hall 50 (show 50 < 58 by decide)) rfl rfl, (List.forall_mem_cons.2 ⟨hF.val 51 _ _ (hall 51 (show 51 < 58 by decide)) rfl rfl, (List.forall_mem_cons.2 ⟨hF.val 52 _ _ (hall 52 (show 52 < 58 by decide)) rfl rfl, (List.forall_mem_cons.2 ⟨hF.val 53 _ _ (hall 53 (show 53 < 58 by decide)) rfl rfl, (List.forall_mem_cons.2 ⟨hF.val 54 _ _ (hall 54 (show 54 < 58 by decide)) rfl rfl, (List.forall_mem_cons.2 ⟨hF.val 55 _ _ (hall 55 (show 55 < 58 by decide)) rfl rfl, (List.forall_mem_cons.2 ⟨hF.val 56 _ _ (hall 56 (show 56 < 58 by decide)) rfl rfl, (List.forall_mem_cons.2 ⟨hF.val 57 _ _ (hall 57 (show 57 < 58 by decide)) rfl rfl, (fun _ h => absurd h List.not_mem_nil)⟩)⟩)⟩)⟩)⟩)⟩)⟩)⟩)⟩)⟩)⟩)⟩)⟩)⟩)⟩)⟩)⟩)⟩)⟩)⟩)⟩)⟩)⟩)⟩)⟩)⟩)⟩)⟩)⟩)⟩)⟩)⟩)⟩)⟩)⟩)⟩)⟩)⟩)⟩)⟩)⟩)⟩)⟩)⟩)⟩)⟩)⟩)⟩)⟩)⟩)⟩)⟩)⟩)⟩)⟩)⟩)⟩)⟩) (by decide)).trans (by kernel_rfl)
          clear hF hall
          subst hT
          clear h113 h137
          go_wp2_with fail
          go_ret
          exact ⟨rfl, hB12.out⟩
    · have cN := (fun W (h : Below w.heap.size w W) => Calls.mono (cN.out W h) (fun r w' h => (show ∃ T u, r = .returned (.tuple #[.pointer none, .iface T u]) ∧ Below W.heap.size W w' by unfold NewR at h; rw [if_neg h0] at h; obtain ⟨T, u, h1, _, h2⟩ := h; exact ⟨T, u, h1, h2⟩)))
      have cR := fun W (h : Below w.heap.size w W) => cR.out W h
      have hne : (denyE gs ss l == 0) = false := beq_eq_false_iff_ne.2 h0
      have hne2 : decide (denyE gs ss l = 0) = false := decide_eq_false h0
      generalize denyE gs ss l = e at cR hne hne2
      generalize denyW gs ss l = sw at cR
      have cN := Lib.hid cN
      have cR := Lib.hid cR
      clear h0 hKS hnm
      go_enter Tryd.func4, Tryd.ntmps4
      go_upto_region 1 with fail
      rw [← hW1]
      clear hW1
      go_wp2_with (first
        | (refine wpList_load_at 42 (.tmp 3) rfl rfl w.heap.size 0 rfl [.slice A n c, .slice B m d, .int .i64 l] _ hld0 Tryd.underlying42 rfl (by kernel_rfl) ?_)
        | (go_at_call 14; (with_reducible refine (cF.out _ hB1.out).mono ?_); rintro r w2 ⟨rfl, hb2⟩; obtain ⟨s0, s1, s2, s3, s4⟩ := hS.out w2 hb2; have hD2 := Lib.hid hb2; have hB2 := Lib.hid (hB1.out.trans (hb2.mono hB1.out.size)); clear hb2)
        | (go_at_call 6; (with_reducible refine (cN.out _ hB2.out).mono ?_); rintro r w3 ⟨T3, u3, rfl, hb3⟩; obtain ⟨s5, s6, s7, s8, s9⟩ := hS.out w3 (hD2.out.trans (hb3.mono hD2.out.size)); have hB3 := Lib.hid (hB2.out.trans (hb3.mono hB2.out.size)); clear hb3)
        | (go_at_call 15; (with_reducible refine (cR.out _ hB3.out).mono ?_); rintro r w4 ⟨rfl, hb4⟩; have hB4 := Lib.hid (hB3.out.trans (hb4.mono hB3.out.size)); clear hb4)
        | (go_at_call 5; (with_reducible refine (aw.out _).mono ?_); rintro r w8 ⟨rfl, hb8⟩; have hB8 := Lib.hid (hB4.out.trans (hb8.mono hB4.out.size)); clear hb8))
      go_ret
      rw [show (e != 0) = true by unfold bne; rw [hne]; rfl]
      exact ⟨rfl, hB8.out⟩
end Go.Proofs.YtifliohljcafgaaDoor
