/- A recipe that is being written: raise. (printed by wip/gen_sfh.py) -/
import Derived.Test.YtphnakdgpilcmaaGreatDoorHb23
import Derived.Test.YtphnakdgpilcmaaGreatDoorHb21
namespace Go.Proofs.YtphnakdgpilcmaaGreatDoor
open Go.RowKit Go.Maps

/-- What raise has answered, seen later. -/
def RsF (ls : List Tm) (n : Nat) (s : List UInt8) (ez : List (Int × Tm)) (Ax : Option Addr) (cx : Nat) (W1 W : World) (i : Int) (v : Value) : Prop :=
  (i = -1 ∧ v = .slice Ax ez.length cx ∧ ∀ x ∈ ez.map Prod.snd, nder (ls.take n) x) ∨
    ∃ (j : Nat) (y : Tm) (ms : List (Int × Tm)), i = j ∧ j < n ∧ ls[j]? = some y ∧ y.kind = 5 ∧ y.s = s ∧ OwnD W W1.heap.size v (ms.map Prod.fst) ∧ (∀ z ∈ ms, z ∈ ez) ∧ (restL (ez.map Prod.snd) y.args).2 = true ∧ (restL (ez.map Prod.snd) y.args).1 = ms.map Prod.snd ∧ ∀ x ∈ ms.map Prod.snd, nder (ls.take n) x
theorem RsF.keep {ls : List Tm} {n : Nat} {s : List UInt8} {ez : List (Int × Tm)} {Ax : Option Addr} {cx : Nat} {W1 W W' : World} {i : Int} {v : Value} (h : RsF ls n s ez Ax cx W1 W i v) (hb : Below W.heap.size W W') : RsF ls n s ez Ax cx W1 W' i v :=
  h.imp id fun ⟨j, y, ms, h1, h2, h3, h4, h5, h6, h7⟩ => ⟨j, y, ms, h1, h2, h3, h4, h5, OwnR.keep h6 hb, h7⟩
def Full (k n kk : Nat) : Prop := k = n → kk = 1
/-- What raise's loop goes over: the share it begins with, and the exponents that lack. -/
structure RsG (ls : List Tm) (n : Nat) (s : List UInt8) (ez : List (Int × Tm)) (S0 : List Tm) (ms : List (Int × Tm)) : Prop where
  s1 : 1 ≤ s.length
  s2 : s.length ≤ 2100
  non : Nons S0
  exps : ∀ x ∈ ms.map Prod.snd, x.ok ∧ x.kind = 2
  all : insA S0 (ms.map Prod.snd) = ez.map Prod.snd
  few : S0.length + ms.length ≤ 8
  nd : ∀ z ∈ ms, z ∈ ez ∧ nder (ls.take n) z.2
theorem share_parts {s : List UInt8} {args : List Tm} (h : (Tm.mk 5 0 0 s args).ok) : 1 ≤ s.length ∧ s.length ≤ 2100 ∧ args.length ≤ 8 ∧ Nons args := by
  have hh := (ok_mk.1 h).1
  unfold okHd at hh
  simp only [reduceCtorEq, false_and, or_false, false_or, true_and, Nat.reduceEqDiff] at hh
  exact ⟨hh.1, hh.2.1, hh.2.2, ok_sorted h rfl, fun x hx => ⟨ok_args h x hx, ok_exps h rfl x hx⟩⟩
theorem share_eta {y : Tm} (h : y.ok) (hk : y.kind = 5) : y = .mk 5 0 0 y.s y.args := by
  obtain ⟨k, a, b, s, l⟩ := y
  obtain rfl : k = 5 := hk
  have hh := (ok_mk.1 h).1
  unfold okHd at hh
  simp only [reduceCtorEq, false_and, or_false, false_or, true_and, Nat.reduceEqDiff] at hh
  obtain ⟨rfl, rfl, _⟩ := hh
  rfl
theorem insA_few {S l args : List Tm} (h : insA S l = args) : S.length + l.length = args.length := by rw [← h, insA_len]
theorem RsG.base {ls : List Tm} {n : Nat} {s : List UInt8} {ez : List (Int × Tm)} (hok : (Tm.mk 5 0 0 s (ez.map Prod.snd)).ok) (hn : ∀ x ∈ ez.map Prod.snd, nder (ls.take n) x) : RsG ls n s ez [] ez := by
  obtain ⟨h1, h2, h3, h4⟩ := share_parts hok
  have ha : insA [] (ez.map Prod.snd) = ez.map Prod.snd := insA_all ⟨List.Pairwise.nil, fun _ h => absurd h List.not_mem_nil⟩ h4.2 h4 fun x => by rw [cnt_nil]; rfl
  exact ⟨h1, h2, ⟨List.Pairwise.nil, fun _ h => absurd h List.not_mem_nil⟩, h4.2, ha, by simpa using h3, fun z hz => ⟨hz, hn _ (List.mem_map_of_mem hz)⟩⟩
theorem RsG.of {ls : List Tm} {n : Nat} {s : List UInt8} {ez ms : List (Int × Tm)} {y : Tm} (hok : (Tm.mk 5 0 0 s (ez.map Prod.snd)).ok) (hy : y.ok) (hk : y.kind = 5) (hm : ∀ z ∈ ms, z ∈ ez) (h1 : (restL (ez.map Prod.snd) y.args).2 = true) (h2 : (restL (ez.map Prod.snd) y.args).1 = ms.map Prod.snd)
    (hn : ∀ x ∈ ms.map Prod.snd, nder (ls.take n) x) : RsG ls n s ez y.args ms := by
  obtain ⟨a1, a2, a3, a4⟩ := share_parts hok
  have hya : Nons y.args := ⟨ok_sorted hy hk, fun x hx => ⟨ok_args hy x hx, ok_exps hy hk x hx⟩⟩
  have hr := restL_ok a4.1 hya.1 a4.2 hya.2
  have hme : ∀ x ∈ ms.map Prod.snd, x.ok ∧ x.kind = 2 := fun x hx => by rw [← h2] at hx; exact a4.2 x (hr.2.2 x hx)
  have ha : insA y.args (ms.map Prod.snd) = ez.map Prod.snd := insA_all hya hme a4 fun x => by rw [← h2]; exact hr.2.1 h1 x
  have hl := insA_few ha
  rw [List.length_map] at hl
  exact ⟨a1, a2, hya, hme, ha, by omega, fun z hz => ⟨hm z hz, hn _ (List.mem_map_of_mem hz)⟩⟩
theorem RsG.pre {ls : List Tm} {n : Nat} {s : List UInt8} {ez ms : List (Int × Tm)} {S0 : List Tm} (h : RsG ls n s ez S0 ms) (k : Nat) : (Tm.mk 5 0 0 s (insA S0 ((ms.map Prod.snd).take k))).ok ∧ (Tm.mk 5 0 0 s (insA S0 ((ms.map Prod.snd).take k))).len ≤ 131072 := by
  have hl : (insA S0 ((ms.map Prod.snd).take k)).length ≤ 8 := by
    rw [insA_len, List.length_take, List.length_map]
    have := h.few
    omega
  have hn := insA_non h.non fun x hx => h.exps x (List.mem_of_mem_take (i := k) hx)
  exact ⟨share_ok h.s1 h.s2 hl hn, share_len h.s1 h.s2 hl hn⟩
theorem CkR.from_ {V1 W W2 : World} {m q bm : Nat} {L : List Tm} {known sent : List (Option Tm)} {M d k : Nat} {kl : List Mk} {F : Int → Option Int} {t : Tm} {r : Ending} {W' : World} (hb : Below W.heap.size W W2) (h : CkR V1 W2 m q bm L known sent M d k kl F t r W') : CkR V1 W m q bm L known sent M d k kl F t r W' := by
  obtain ⟨j, A2, c2, e2, nb2, F2, h1, h2, h3, h4, h5, h6, h7, h8⟩ := h
  exact ⟨j, A2, c2, e2, nb2, F2, h1, h2, h3, h4, h5, h6, (StayK.of_below hb).trans h7, Nat.le_trans hb.size h8⟩
attribute [local go_sem ↓] ldN_eq
def dsSh1 : List (Option Nat) := [some 15, some 16, some 17, some 18, some 19, some 20, some 21, some 14, some 22, some 23, some 24, some 7, some 8, some 9]
def tbSh1 : List (List Nat) := [[], [0], [1], [2], [], [], [3, 4, 5], [6], [7], [7], [7], [8], [9], [10]]
def vsSh1 (q : Nat) (m : Nat) (p0 : Nat) (n : Nat) (ne : Nat) (cx : Nat) (Ax : Option Addr) (s : List UInt8) : List (Option Value) := [some (.pointer (some ⟨q, 0, none⟩)), some (.pointer (some ⟨q, 0, none⟩)), some (.pointer (some ⟨q, 0, none⟩)), some (.pointer (some ⟨m, 0, none⟩)), some (.agg (ndC 5 0 0 s (.slice Ax ne cx)).toArray), some (.int .i64 n), none, none, none, none, some (.bool true), none, none, some (.bool true)]
set_option maxRecDepth 100000 in
set_option maxHeartbeats 2000000 in
theorem mcraise_any {V V1 W w0 : World} {g m b q bm B : Nat} {A0 A Ax : Option Addr} {c0 c cx : Nat} {its : List It} {Ls ls : List Tm} {known sent : List (Option Tm)} {kl : List Mk} {nb : Nat} {F : Int → Option Int} {n M : Nat}
    (hM : MindW V V1 g m b A0 c0 its) (hS : St w0 g V1 Ls) (hN : Named Ls its ls) (hn : n ≤ its.length) (hc : CookW V1 W m q bm A c kl nb F) (ho : Coo Ls known sent kl F) (hnb : nb ≤ kl.length) (hR : Room Ls.length M F kl.length) (hM1 : 1 ≤ M)
    (s : List UInt8) (ez : List (Int × Tm)) (hz : OwnD W B (.slice Ax ez.length cx) (ez.map Prod.fst)) (hx : ∀ z ∈ ez, get Ls z.1 = some z.2) (hok : (Tm.mk 5 0 0 s (ez.map Prod.snd)).ok) (hni : Tm.mk 5 0 0 s (ez.map Prod.snd) ∉ ls.take n) (hd : raiseP (ls.take n) s (ez.map Prod.snd))
    (hmk : ∀ z ∈ ez, nder (ls.take n) z.2 → ∃ M1, M1 + 1 ≤ M ∧ MkP V1 m q bm Ls known sent n M1 z.2) (hml : ∀ j y, j < n → ls[j]? = some y → ∃ M1, M1 + 1 ≤ M ∧ MkP V1 m q bm Ls known sent (j + 1) M1 y) :
    Calls Tryz.prog 104 #[.pointer (some ⟨q, 0, none⟩), .agg (ndC 5 0 0 s (.slice Ax ez.length cx)).toArray, .int .i64 n] W (CkR V1 W m q bm Ls known sent (M - 1) 34 1 kl F (.mk 5 0 0 s (ez.map Prod.snd))) := by
  have hbx := below_new W (.cells (ndC 5 0 0 s (.slice Ax ez.length cx)).toArray 52)
  have hrx := heap_new W (.cells (ndC 5 0 0 s (.slice Ax ez.length cx)).toArray 52)
  obtain ⟨W1, hW1⟩ : ∃ W1, W1 = W.alloc (.cells (ndC 5 0 0 s (.slice Ax ez.length cx)).toArray 52) := ⟨_, rfl⟩
  rw [← hW1] at hbx hrx
  have hcw := Lib.hid (show ∀ W', Below W1.heap.size W1 W' → W'.cell? ⟨q, 0, none⟩ = some (.pointer (some ⟨m, 0, none⟩)) from fun W' h => (hc.keep (hbx.trans (h.mono hbx.size))).c0.1)
  have hlw := Lib.hid (show ∀ W', Below W1.heap.size W1 W' → (ldN ⟨W.heap.size, 0, none⟩).run Tryz.prog W' = .ok (.agg (ndC 5 0 0 s (.slice Ax ez.length cx)).toArray) W' from fun W' h => ldN_run ((h.block W.heap.size (Array.getElem?_eq_some_iff.1 hrx).1).trans hrx) rfl)
  have hzI := (show ∀ W', StayK W W' → Ints W' Ax ez.length (ez.map Prod.fst) from fun W' hs => by
    have hzr : OwnD W' B (.slice Ax ez.length cx) (ez.map Prod.fst) := OwnR.stayK hz hs (by decide) (by decide)
    obtain ⟨A3, c3, e3, hI3⟩ := hzr.ints
    rw [List.length_map] at e3 hI3
    injection e3 with e31 _ _
    rw [e31]
    exact hI3)
  have hm8 : ez.length ≤ 8 := by
    have hh := (ok_mk.1 hok).1
    unfold okHd at hh
    simp only [reduceCtorEq, false_and, or_false, false_or, true_and, Nat.reduceEqDiff, List.length_map] at hh
    omega
  have cRw := Lib.hid (show ∀ W', Below W1.heap.size W1 W' → Calls Tryz.prog 101 #[.pointer (some ⟨m, 0, none⟩), .agg (ndC 5 0 0 s (.slice Ax ez.length cx)).toArray, .int .i64 n] W' (fun r W2 => ∃ (i : Int) (v : Value), r = .returned (.tuple #[.int .i64 i, v, .bool true]) ∧ Below W'.heap.size W' W2 ∧ RsF ls n s ez Ax cx W1 W2 i v) from fun W' h => by
    have hB := hbx.trans (h.mono hbx.size)
    have hBv := hc.below.trans (hB.mono hc.below.size)
    refine Calls.mono (mraise_any (hM.keep hBv) (hS.keep hBv) hN 5 0 0 s ez Ax cx (hzI W' (StayK.of_below hB)) (fun z hz => ⟨i64_get (hx z hz) hS.few, hx z hz⟩) n hn (by omega) (ok_sorted hok rfl) (fun x hx => ⟨ok_args hok x hx, ok_exps hok rfl x hx⟩)) fun (r : Ending) (W2 : World) hr => ?_
    obtain ⟨hb, i, v, qq, rfl, hq, hr⟩ := hr
    have hqt := hq.2 hd
    subst hqt
    exact ⟨i, v, rfl, hb, (hr rfl).imp id fun ⟨j, y, ms, h1, h2, h3, h4, h5, h6, h7⟩ => ⟨j, y, ms, h1, h2, h3, h4, h5, OwnR.low h6 h.size, h7⟩⟩)
  have hsw := Lib.hid (show ∀ W', Below W1.heap.size W1 W' → W'.cell? ⟨W.heap.size, 3, none⟩ = some (.string (bs s)) from fun W' h => cell_of_row _ _ 3 _ _ _ ((h.block W.heap.size (Array.getElem?_eq_some_iff.1 hrx).1).trans hrx))
  have hzIh := Lib.hid hzI
  have hch := Lib.hid (And.intro hc (And.intro ho (And.intro hnb hR)))
  have hxh := Lib.hid (And.intro hx (And.intro hok hni))
  have hmkh := Lib.hid hmk
  have hmlh := Lib.hid hml
  have hNh := Lib.hid (And.intro hN (And.intro hS.good hM1))
  have hbxh := Lib.hid hbx
  have hMV := Lib.hid (show ∀ W', Below V1.heap.size V1 W' → MindW V W' g m b A0 c0 its from fun W' h => hM.keep h)
  clear hM hS hN hn hc ho hnb hR hz hx hok hni hd hmk hml hbx hrx hzI
  go_enter Tryz.func104, Tryz.ntmps104
  go_upto_region 1 with fail
  rw [← hW1]
  obtain ⟨p0, hp0⟩ : ∃ p0, W.heap.size = p0 := ⟨_, rfl⟩
  rw [hp0] at hlw hsw ⊢
  refine region_iw tbSh1 dsSh1 (vsSh1 q m p0 n (ez.length) cx Ax s) (fun L T W => Below W1.heap.size W1 W ∧ ∃ (i : Int) (v : Value), (L 6 = true → RsF ls n s ez Ax cx W1 W i v ∧ T.getD 21 undef = .tuple #[.int .i64 i, v, .bool true]) ∧ (L 7 = true → T.getD 14 undef = .tuple #[.int .i64 i, v, .bool true]) ∧ (L 8 = true → T.getD 22 undef = .int .i64 i) ∧ (L 9 = true → T.getD 23 undef = v) ∧ (L 11 = true → T.getD 7 undef = .int .i64 i) ∧ (L 12 = true → T.getD 8 undef = v)) rfl (by decide) (by kernel_rfl) ?hlt ?hstep ?hdone ?hstart
  case hstart => exact ⟨drewN_below 1, 0, undef, fun h => absurd h (inv_not (n := 14) (i := 6) (by decide)), fun h => absurd h (inv_not (n := 14) (i := 7) (by decide)), fun h => absurd h (inv_not (n := 14) (i := 8) (by decide)), fun h => absurd h (inv_not (n := 14) (i := 9) (by decide)), fun h => absurd h (inv_not (n := 14) (i := 11) (by decide)), fun h => absurd h (inv_not (n := 14) (i := 12) (by decide))⟩
  case hlt =>
    intro ix o ho
    have hi := (Array.getElem?_eq_some_iff.1 ho).1
    match ix, hi with
    | 0, _ => obtain rfl := Option.some.inj ho; decide
    | 1, _ => obtain rfl := Option.some.inj ho; decide
    | 2, _ => obtain rfl := Option.some.inj ho; decide
    | 3, _ => obtain rfl := Option.some.inj ho; decide
    | 4, _ => obtain rfl := Option.some.inj ho; decide
    | 5, _ => obtain rfl := Option.some.inj ho; decide
    | 6, _ => obtain rfl := Option.some.inj ho; decide
    | 7, _ => obtain rfl := Option.some.inj ho; decide
    | 8, _ => obtain rfl := Option.some.inj ho; decide
    | 9, _ => obtain rfl := Option.some.inj ho; decide
    | 10, _ => obtain rfl := Option.some.inj ho; decide
    | 11, _ => obtain rfl := Option.some.inj ho; decide
    | 12, _ => obtain rfl := Option.some.inj ho; decide
    | 13, _ => obtain rfl := Option.some.inj ho; decide
  case hstep =>
    intro T1 hE L T W ix o hF hW hc ho hLi hd K hK
    have hN : T1.size = 64 := by rw [hE]; rfl
    have f0 : T.getD 0 undef = .pointer (some ⟨q, 0, none⟩) := (hF.old 0 (by decide)).trans (by rw [hE]; rfl)
    have f2 : T.getD 2 undef = .int .i64 n := (hF.old 2 (by decide)).trans (by rw [hE]; rfl)
    have f4 : T.getD 4 undef = .pointer (some ⟨p0, 0, none⟩) := (hF.old 4 (by decide)).trans (by rw [hE]; rfl)
    clear hE
    replace hF := Lib.hid hF
    replace hW := Lib.hid hW
    replace hK := Lib.hid hK
    have hi := (List.getElem?_eq_some_iff.1 ho).1
    match ix, hi with
    | 0, _ =>
      obtain rfl := Option.some.inj ho
      clear hd ho hi hc hLi
      exact st_val (v := .pointer (some ⟨q, 0, none⟩)) (w' := W) (want_none rfl) (by unfold execOp; dsimp only [Act.eval]; simp only [f0]; go_simp) (hK.out _ _ (hF.out.put (k := 0) (s := 15) rfl (by decide) hN (by decide) (fun u_v hu => Option.some.inj (Option.some.inj (show some (some (.pointer (some ⟨q, 0, none⟩))) = some (some u_v) from hu))) (by dsimp only; rw [gd_ne (show 15 ≠ 21 by decide), gd_ne (show 15 ≠ 14 by decide), gd_ne (show 15 ≠ 22 by decide), gd_ne (show 15 ≠ 23 by decide), gd_ne (show 15 ≠ 7 by decide), gd_ne (show 15 ≠ 8 by decide)]; exact hW.out)))
    | 1, _ =>
      obtain rfl := Option.some.inj ho
      have l0 : L 0 = true := dep_of hd (n := 0) (by decide)
      have e15 : T.getD 15 undef = .pointer (some ⟨q, 0, none⟩) := hF.out.val 0 15 _ l0 rfl rfl
      clear hd ho hi hc hLi
      exact st_val (v := .pointer (some ⟨q, 0, none⟩)) (w' := W) (want_none rfl) (by unfold execOp; dsimp only [Act.eval]; simp only [e15]; go_simp) (hK.out _ _ (hF.out.put (k := 1) (s := 16) rfl (by decide) hN (by decide) (fun u_v hu => Option.some.inj (Option.some.inj (show some (some (.pointer (some ⟨q, 0, none⟩))) = some (some u_v) from hu))) (by dsimp only; rw [gd_ne (show 16 ≠ 21 by decide), gd_ne (show 16 ≠ 14 by decide), gd_ne (show 16 ≠ 22 by decide), gd_ne (show 16 ≠ 23 by decide), gd_ne (show 16 ≠ 7 by decide), gd_ne (show 16 ≠ 8 by decide)]; exact hW.out)))
    | 2, _ =>
      obtain rfl := Option.some.inj ho
      have l1 : L 1 = true := dep_of hd (n := 1) (by decide)
      have e16 : T.getD 16 undef = .pointer (some ⟨q, 0, none⟩) := hF.out.val 1 16 _ l1 rfl rfl
      clear hd ho hi hc hLi
      exact st_val (v := .pointer (some ⟨q, 0, none⟩)) (w' := W) (want_none rfl) (by unfold execOp; dsimp only [Act.eval]; simp only [e16]; go_simp) (hK.out _ _ (hF.out.put (k := 2) (s := 17) rfl (by decide) hN (by decide) (fun u_v hu => Option.some.inj (Option.some.inj (show some (some (.pointer (some ⟨q, 0, none⟩))) = some (some u_v) from hu))) (by dsimp only; rw [gd_ne (show 17 ≠ 21 by decide), gd_ne (show 17 ≠ 14 by decide), gd_ne (show 17 ≠ 22 by decide), gd_ne (show 17 ≠ 23 by decide), gd_ne (show 17 ≠ 7 by decide), gd_ne (show 17 ≠ 8 by decide)]; exact hW.out)))
    | 3, _ =>
      obtain rfl := Option.some.inj ho
      have l2 : L 2 = true := dep_of hd (n := 2) (by decide)
      have e17 : T.getD 17 undef = .pointer (some ⟨q, 0, none⟩) := hF.out.val 2 17 _ l2 rfl rfl
      have hcc := (hcw.out W hW.out.1)
      clear hd ho hi hc hLi
      exact st_val (v := .pointer (some ⟨m, 0, none⟩)) (w' := W) (want_none rfl) (by unfold execOp; dsimp only [Act.eval]; simp only [e17]; go_simp) (hK.out _ _ (hF.out.put (k := 3) (s := 18) rfl (by decide) hN (by decide) (fun u_v hu => Option.some.inj (Option.some.inj (show some (some (.pointer (some ⟨m, 0, none⟩))) = some (some u_v) from hu))) (by dsimp only; rw [gd_ne (show 18 ≠ 21 by decide), gd_ne (show 18 ≠ 14 by decide), gd_ne (show 18 ≠ 22 by decide), gd_ne (show 18 ≠ 23 by decide), gd_ne (show 18 ≠ 7 by decide), gd_ne (show 18 ≠ 8 by decide)]; exact hW.out)))
    | 4, _ =>
      obtain rfl := Option.some.inj ho
      have hld := hlw.out W hW.out.1
      clear hd ho hi hc hLi
      exact st_val (v := .agg (ndC 5 0 0 s (.slice Ax (ez.length) cx)).toArray) (w' := W) (want_none rfl) (by unfold execOp; dsimp only [Act.eval]; simp only [f4]; go_simp) (hK.out _ _ (hF.out.put (k := 4) (s := 19) rfl (by decide) hN (by decide) (fun u_v hu => Option.some.inj (Option.some.inj (show some (some (.agg (ndC 5 0 0 s (.slice Ax (ez.length) cx)).toArray)) = some (some u_v) from hu))) (by dsimp only; rw [gd_ne (show 19 ≠ 21 by decide), gd_ne (show 19 ≠ 14 by decide), gd_ne (show 19 ≠ 22 by decide), gd_ne (show 19 ≠ 23 by decide), gd_ne (show 19 ≠ 7 by decide), gd_ne (show 19 ≠ 8 by decide)]; exact hW.out)))
    | 5, _ =>
      obtain rfl := Option.some.inj ho
      clear hd ho hi hc hLi
      exact st_val (v := .int .i64 n) (w' := W) (want_none rfl) (by unfold execOp; dsimp only [Act.eval]; simp only [f2]; go_simp) (hK.out _ _ (hF.out.put (k := 5) (s := 20) rfl (by decide) hN (by decide) (fun u_v hu => Option.some.inj (Option.some.inj (show some (some (.int .i64 n)) = some (some u_v) from hu))) (by dsimp only; rw [gd_ne (show 20 ≠ 21 by decide), gd_ne (show 20 ≠ 14 by decide), gd_ne (show 20 ≠ 22 by decide), gd_ne (show 20 ≠ 23 by decide), gd_ne (show 20 ≠ 7 by decide), gd_ne (show 20 ≠ 8 by decide)]; exact hW.out)))
    | 6, _ =>
      obtain rfl := Option.some.inj ho
      have l3 : L 3 = true := dep_of hd (n := 3) (by decide)
      have e18 : T.getD 18 undef = .pointer (some ⟨m, 0, none⟩) := hF.out.val 3 18 _ l3 rfl rfl
      have l4 : L 4 = true := dep_of hd (n := 4) (by decide)
      have e19 : T.getD 19 undef = .agg (ndC 5 0 0 s (.slice Ax (ez.length) cx)).toArray := hF.out.val 4 19 _ l4 rfl rfl
      have l5 : L 5 = true := dep_of hd (n := 5) (by decide)
      have e20 : T.getD 20 undef = .int .i64 n := hF.out.val 5 20 _ l5 rfl rfl
      have n7 : ¬ L 7 = true := fun h => by have := hc 7 6 h (by decide); rw [hLi] at this; cases this
      have n8 : ¬ L 8 = true := fun h => by have := hc 7 6 (hc 8 7 h (by decide)) (by decide); rw [hLi] at this; cases this
      have n9 : ¬ L 9 = true := fun h => by have := hc 7 6 (hc 9 7 h (by decide)) (by decide); rw [hLi] at this; cases this
      have n11 : ¬ L 11 = true := fun h => by have := hc 7 6 (hc 8 7 (hc 11 8 h (by decide)) (by decide)) (by decide); rw [hLi] at this; cases this
      have n12 : ¬ L 12 = true := fun h => by have := hc 7 6 (hc 9 7 (hc 12 9 h (by decide)) (by decide)) (by decide); rw [hLi] at this; cases this
      have cc := Lib.hid (cRw.out W hW.out.1)
      clear hd ho hi hc
      refine st_call (want_none rfl) (by unfold execOp; go_simp) cc.out ?_
      rintro r w3 ⟨i, v, rfl, hb4, hf4⟩
      exact ⟨_, rfl, hK.out _ _ (hF.out.put (k := 6) (s := 21) rfl (by decide) hN (by decide) (fun u hu => by cases hu) ⟨hW.out.1.trans (hb4.mono hW.out.1.size), i, v, fun _ => ⟨hf4, gd_eq (by rw [hF.out.size, hN]; decide)⟩, fun h => absurd (show L 7 = true from h) n7, fun h => absurd (show L 8 = true from h) n8, fun h => absurd (show L 9 = true from h) n9, fun h => absurd (show L 11 = true from h) n11, fun h => absurd (show L 12 = true from h) n12⟩)⟩
    | 7, _ =>
      obtain rfl := Option.some.inj ho
      have l6 : L 6 = true := dep_of hd (n := 6) (by decide)
      obtain ⟨hbW, i, v, p6, p7, p8, p9, p11, p12⟩ := hW.out
      have e21 := (p6 l6).2
      clear hd ho hi hc hLi
      exact st_val (v := .tuple #[.int .i64 i, v, .bool true]) (w' := W) (want_none rfl) (by unfold execOp; dsimp only [Act.eval]; simp only [e21]; go_simp) (hK.out _ _ (hF.out.put (k := 7) (s := 14) rfl (by decide) hN (by decide) (fun u hu => by cases hu) ⟨hbW, i, v, fun h => ⟨(p6 h).1, (gd_ne (show 14 ≠ 21 by decide)).trans (p6 h).2⟩, fun _ => (gd_eq (by rw [hF.out.size, hN]; decide)).trans rfl, fun h => (gd_ne (show 14 ≠ 22 by decide)).trans (p8 h), fun h => (gd_ne (show 14 ≠ 23 by decide)).trans (p9 h), fun h => (gd_ne (show 14 ≠ 7 by decide)).trans (p11 h), fun h => (gd_ne (show 14 ≠ 8 by decide)).trans (p12 h)⟩))
    | 8, _ =>
      obtain rfl := Option.some.inj ho
      have l7 : L 7 = true := dep_of hd (n := 7) (by decide)
      obtain ⟨hbW, i, v, p6, p7, p8, p9, p11, p12⟩ := hW.out
      have e14 := p7 l7
      clear hd ho hi hc hLi
      exact st_val (v := .int .i64 i) (w' := W) (want_none rfl) (by unfold execOp; dsimp only [Act.eval]; simp only [e14]; go_simp) (hK.out _ _ (hF.out.put (k := 8) (s := 22) rfl (by decide) hN (by decide) (fun u hu => by cases hu) ⟨hbW, i, v, fun h => ⟨(p6 h).1, (gd_ne (show 22 ≠ 21 by decide)).trans (p6 h).2⟩, fun h => (gd_ne (show 22 ≠ 14 by decide)).trans (p7 h), fun _ => (gd_eq (by rw [hF.out.size, hN]; decide)).trans rfl, fun h => (gd_ne (show 22 ≠ 23 by decide)).trans (p9 h), fun h => (gd_ne (show 22 ≠ 7 by decide)).trans (p11 h), fun h => (gd_ne (show 22 ≠ 8 by decide)).trans (p12 h)⟩))
    | 9, _ =>
      obtain rfl := Option.some.inj ho
      have l7 : L 7 = true := dep_of hd (n := 7) (by decide)
      obtain ⟨hbW, i, v, p6, p7, p8, p9, p11, p12⟩ := hW.out
      have e14 := p7 l7
      clear hd ho hi hc hLi
      exact st_val (v := v) (w' := W) (want_none rfl) (by unfold execOp; dsimp only [Act.eval]; simp only [e14]; go_simp) (hK.out _ _ (hF.out.put (k := 9) (s := 23) rfl (by decide) hN (by decide) (fun u hu => by cases hu) ⟨hbW, i, v, fun h => ⟨(p6 h).1, (gd_ne (show 23 ≠ 21 by decide)).trans (p6 h).2⟩, fun h => (gd_ne (show 23 ≠ 14 by decide)).trans (p7 h), fun h => (gd_ne (show 23 ≠ 22 by decide)).trans (p8 h), fun _ => (gd_eq (by rw [hF.out.size, hN]; decide)).trans rfl, fun h => (gd_ne (show 23 ≠ 7 by decide)).trans (p11 h), fun h => (gd_ne (show 23 ≠ 8 by decide)).trans (p12 h)⟩))
    | 10, _ =>
      obtain rfl := Option.some.inj ho
      have l7 : L 7 = true := dep_of hd (n := 7) (by decide)
      obtain ⟨hbW, i, v, p6, p7, p8, p9, p11, p12⟩ := hW.out
      have e14 := p7 l7
      clear hd ho hi hc hLi
      exact st_val (v := .bool true) (w' := W) (want_none rfl) (by unfold execOp; dsimp only [Act.eval]; simp only [e14]; go_simp) (hK.out _ _ (hF.out.put (k := 10) (s := 24) rfl (by decide) hN (by decide) (fun u_v hu => Option.some.inj (Option.some.inj (show some (some (.bool true)) = some (some u_v) from hu))) ⟨hbW, i, v, fun h => ⟨(p6 h).1, (gd_ne (show 24 ≠ 21 by decide)).trans (p6 h).2⟩, fun h => (gd_ne (show 24 ≠ 14 by decide)).trans (p7 h), fun h => (gd_ne (show 24 ≠ 22 by decide)).trans (p8 h), fun h => (gd_ne (show 24 ≠ 23 by decide)).trans (p9 h), fun h => (gd_ne (show 24 ≠ 7 by decide)).trans (p11 h), fun h => (gd_ne (show 24 ≠ 8 by decide)).trans (p12 h)⟩))
    | 11, _ =>
      obtain rfl := Option.some.inj ho
      have l8 : L 8 = true := dep_of hd (n := 8) (by decide)
      obtain ⟨hbW, i, v, p6, p7, p8, p9, p11, p12⟩ := hW.out
      have e22 := p8 l8
      clear hd ho hi hc hLi
      exact st_val (v := .int .i64 i) (w' := W) (want_none rfl) (by unfold execOp; dsimp only [Act.eval]; simp only [e22]; go_simp) (hK.out _ _ (hF.out.put (k := 11) (s := 7) rfl (by decide) hN (by decide) (fun u hu => by cases hu) ⟨hbW, i, v, fun h => ⟨(p6 h).1, (gd_ne (show 7 ≠ 21 by decide)).trans (p6 h).2⟩, fun h => (gd_ne (show 7 ≠ 14 by decide)).trans (p7 h), fun h => (gd_ne (show 7 ≠ 22 by decide)).trans (p8 h), fun h => (gd_ne (show 7 ≠ 23 by decide)).trans (p9 h), fun _ => (gd_eq (by rw [hF.out.size, hN]; decide)).trans rfl, fun h => (gd_ne (show 7 ≠ 8 by decide)).trans (p12 h)⟩))
    | 12, _ =>
      obtain rfl := Option.some.inj ho
      have l9 : L 9 = true := dep_of hd (n := 9) (by decide)
      obtain ⟨hbW, i, v, p6, p7, p8, p9, p11, p12⟩ := hW.out
      have e23 := p9 l9
      clear hd ho hi hc hLi
      exact st_val (v := v) (w' := W) (want_none rfl) (by unfold execOp; dsimp only [Act.eval]; simp only [e23]; go_simp) (hK.out _ _ (hF.out.put (k := 12) (s := 8) rfl (by decide) hN (by decide) (fun u hu => by cases hu) ⟨hbW, i, v, fun h => ⟨(p6 h).1, (gd_ne (show 8 ≠ 21 by decide)).trans (p6 h).2⟩, fun h => (gd_ne (show 8 ≠ 14 by decide)).trans (p7 h), fun h => (gd_ne (show 8 ≠ 22 by decide)).trans (p8 h), fun h => (gd_ne (show 8 ≠ 23 by decide)).trans (p9 h), fun h => (gd_ne (show 8 ≠ 7 by decide)).trans (p11 h), fun _ => (gd_eq (by rw [hF.out.size, hN]; decide)).trans rfl⟩))
    | 13, _ =>
      obtain rfl := Option.some.inj ho
      have l10 : L 10 = true := dep_of hd (n := 10) (by decide)
      have e24 : T.getD 24 undef = .bool true := hF.out.val 10 24 _ l10 rfl rfl
      clear hd ho hi hc hLi
      exact st_val (v := .bool true) (w' := W) (want_none rfl) (by unfold execOp; dsimp only [Act.eval]; simp only [e24]; go_simp) (hK.out _ _ (hF.out.put (k := 13) (s := 9) rfl (by decide) hN (by decide) (fun u_v hu => Option.some.inj (Option.some.inj (show some (some (.bool true)) = some (some u_v) from hu))) (by dsimp only; rw [gd_ne (show 9 ≠ 21 by decide), gd_ne (show 9 ≠ 14 by decide), gd_ne (show 9 ≠ 22 by decide), gd_ne (show 9 ≠ 23 by decide), gd_ne (show 9 ≠ 7 by decide), gd_ne (show 9 ≠ 8 by decide)]; exact hW.out)))
  case hdone =>
    intro L T W2 hF hW hall
    obtain ⟨hb2, i, v, p6, p7, p8, p9, p11, p12⟩ := hW
    obtain ⟨hf2, e21⟩ := p6 (hall 6 (by decide))
    have e14 := p7 (hall 7 (by decide))
    have e22 := p8 (hall 8 (by decide))
    have e23 := p9 (hall 9 (by decide))
    have e7 := p11 (hall 11 (by decide))
    have e8 := p12 (hall 12 (by decide))
    have hT : T = #[.pointer (some ⟨q, 0, none⟩), .agg (ndC 5 0 0 s (.slice Ax (ez.length) cx)).toArray, .int .i64 n, undef, .pointer (some ⟨p0, 0, none⟩), undef, .int .i64 0, .int .i64 i, v, .bool true, undef, undef, undef, undef, .tuple #[.int .i64 i, v, .bool true], .pointer (some ⟨q, 0, none⟩), .pointer (some ⟨q, 0, none⟩), .pointer (some ⟨q, 0, none⟩), .pointer (some ⟨m, 0, none⟩), .agg (ndC 5 0 0 s (.slice Ax (ez.length) cx)).toArray, .int .i64 n, .tuple #[.int .i64 i, v, .bool true], .int .i64 i, v, .bool true, undef, undef, undef, undef, undef, undef, undef, undef, undef, undef, undef, undef, undef, undef, undef, undef, undef, undef, undef, undef, undef, undef, undef, undef, undef, undef, undef, undef, undef, undef, undef, undef, undef, undef, undef, undef, undef, undef, undef] := (hF.fin [(15, .pointer (some ⟨q, 0, none⟩)), (16, .pointer (some ⟨q, 0, none⟩)), (17, .pointer (some ⟨q, 0, none⟩)), (18, .pointer (some ⟨m, 0, none⟩)), (19, .agg (ndC 5 0 0 s (.slice Ax (ez.length) cx)).toArray), (20, .int .i64 n), (21, .tuple #[.int .i64 i, v, .bool true]), (14, .tuple #[.int .i64 i, v, .bool true]), (22, .int .i64 i), (23, v), (24, .bool true), (7, .int .i64 i), (8, v), (9, .bool true)] [15, 16, 17, 18, 19, 20, 21, 14, 22, 23, 24, 7, 8, 9] rfl (List.forall_mem_cons.2 ⟨hF.val 0 _ _ (hall 0 (show 0 < 14 by decide)) rfl rfl, (List.forall_mem_cons.2 ⟨hF.val 1 _ _ (hall 1 (show 1 < 14 by decide)) rfl rfl, (List.forall_mem_cons.2 ⟨hF.val 2 _ _ (hall 2 (show 2 < 14 by decide)) rfl rfl, (List.forall_mem_cons.2 ⟨hF.val 3 _ _ (hall 3 (show 3 < 14 by decide)) rfl rfl, (List.forall_mem_cons.2 ⟨hF.val 4 _ _ (hall 4 (show 4 < 14 by decide)) rfl rfl, (List.forall_mem_cons.2 ⟨hF.val 5 _ _ (hall 5 (show 5 < 14 by decide)) rfl rfl, (List.forall_mem_cons.2 ⟨e21, (List.forall_mem_cons.2 ⟨e14, (List.forall_mem_cons.2 ⟨e22, (List.forall_mem_cons.2 ⟨e23, (List.forall_mem_cons.2 ⟨hF.val 10 _ _ (hall 10 (show 10 < 14 by decide)) rfl rfl, (List.forall_mem_cons.2 ⟨e7, (List.forall_mem_cons.2 ⟨e8, (List.forall_mem_cons.2 ⟨hF.val 13 _ _ (hall 13 (show 13 < 14 by decide)) rfl rfl, (fun _ h => absurd h List.not_mem_nil)⟩)⟩)⟩)⟩)⟩)⟩)⟩)⟩)⟩)⟩)⟩)⟩)⟩)⟩) (by decide)).trans (by kernel_rfl)
    clear hF hall
    subst hT
    obtain ⟨hc, ho, hnb, hR⟩ := hch.out
    obtain ⟨hN, hgood, hM1⟩ := hNh.out
    have hBW := hbxh.out.trans (hb2.mono hbxh.out.size)
    have hBWh := Lib.hid hBW
    have hc2 := hc.keep hBW
    have hS2 : CkS V1 W2 W2 m q bm Ls known sent (M - 1) 0 0 kl F [] F [] := CkS.start hc2 ho hnb
    have hs3 := hsw.out W2 hb2
    obtain ⟨d0, d1, d2⟩ := hc2.c0
    replace hch := Lib.hid trivial
    have hRh := Lib.hid hR
    have hVW := hMV.out W2 hc2.below
    clear hcw hlw hsw cRw e21 e14 e22 e23 e7 e8 p6 p7 p8 p9 p11 p12 hc ho hnb
    rcases hf2 with ⟨rfl, rfl, hnd⟩ | ⟨jj, y, ms, rfl, hj, hy, hky, hsy, hov, hme, hr1, hr2, hnd⟩
    · have hG := RsG.base hxh.out.2.1 hnd
      have hvI : ∀ W', StayK W2 W' → Ints W' Ax ez.length (ez.map Prod.fst) := fun W' h => hzIh.out W' ((StayK.of_below hBW).trans h)
      have cP : Calls Tryz.prog 103 #[.pointer (some ⟨q, 0, none⟩), .agg #[.int .i64 4, .int .i64 0, .int .i64 0, .int .i64 0, .string (bs s)]] W2 (fun r W3 => ∃ (j kk : Nat) (e' : List Mk), r = .returned (.int .i64 j) ∧ Hid (Full 0 ez.length kk ∧ CkS V1 W2 W3 m q bm Ls known sent (M - 1) (0 + 1) kk kl F e' F [(j, .mk 5 0 0 s (insA [] ((ez.map Prod.snd).take 0)))])) :=
        Calls.mono (hS2.put_ hR hM1 (by decide) ⟨4, 0, 0, 0, s⟩ (.mk 5 0 0 s []) (fun made _ => st_base hG.s1 hG.s2) (hG.pre 0).1 (hG.pre 0).2 (Nat.le_trans hG.s2 (by decide))) fun (r : Ending) (W3 : World) hr => by
          obtain ⟨j, e, h1, h2⟩ := hr
          exact ⟨j, 1, e, h1, Lib.hid ⟨fun _ => rfl, h2⟩⟩
      replace cP := Lib.hid cP
      clear hnd hS2 hc2 hVW d0 d1 d2 hN hgood hR hBW
      go_upto_region 6 with (go_at_call 103; (with_reducible refine cP.out.mono ?_); rintro r w3 ⟨j0, kk0, e0, rfl, h0⟩)
      clear cP
      have hGh := Lib.hid hG
      have hvIh := Lib.hid hvI
      clear hG hvI
      go_wp2_with fail
      go_loopw [10, 49] (fun vv iv wr => ∃ (k j kk : Nat) (e : List Mk) (F' : Int → Option Int), k ≤ ez.length ∧ vv = .int .i64 j ∧ iv = .int .i64 k ∧ Hid (Full k ez.length kk ∧ CkS V1 W2 wr m q bm Ls known sent (M - 1) (k + 1) kk kl F e F' [(j, .mk 5 0 0 s (insA [] ((ez.map Prod.snd).take k)))])) (fun _ iv _ => ez.length - (intOf iv).toNat)
      case atStart => exact ⟨0, _, _, _, _, Nat.zero_le _, rfl, rfl, h0⟩
      case round =>
        clear h0
        obtain ⟨k, j, kk, e, F', hk, rfl, rfl, hP⟩ := hrel
        by_cases hlt : k < ez.length
        · have hlt' : (k : Int) < (ez.length : Int) := by omega
          obtain ⟨z, hz⟩ : ∃ z, ez[k]? = some z := ⟨ez[k], List.getElem?_eq_getElem hlt⟩
          obtain ⟨hze, hzn⟩ := hGh.out.nd z (List.mem_of_getElem? hz)
          obtain ⟨M1, hM1, hmk1⟩ := hmkh.out z hze hzn
          obtain ⟨b3, o3, y3, rfl, hb3, hy3, hc3⟩ := (hvIh.out wr hP.out.2.stay).at_ hlt
          rw [List.getElem?_map, hz] at hy3
          obtain rfl : z.1 = y3 := Option.some.inj hy3
          have hzs : (ez.map Prod.snd)[k]? = some z.2 := by rw [List.getElem?_map, hz]; rfl
          have htk := take_succ_of hzs
          have cM := Lib.hid (hP.out.2.make_ hRh.out (by have := hGh.out.few; omega) hM1 (by omega) (hxh.out.1 z hze) hmk1)
          have cP := Lib.hid (show ∀ (W' : World) (j2 : Nat) (e2 : List Mk) (F2 : Int → Option Int), CkS V1 W2 W' m q bm Ls known sent (M - 1) (k + 1) 0 kl F e2 F2 [(j2, z.2), (j, .mk 5 0 0 s (insA [] ((ez.map Prod.snd).take k)))] →
              Calls Tryz.prog 103 #[.pointer (some ⟨q, 0, none⟩), .agg #[.int .i64 5, .int .i64 j, .int .i64 j2, .int .i64 0, .string ⟨#[]⟩]] W' (fun r W3 => ∃ (j3 : Nat) (e3 : List Mk), r = .returned (.int .i64 j3) ∧ CkS V1 W2 W3 m q bm Ls known sent (M - 1) (k + 1 + 1) 1 kl F e3 F2 [(j3, .mk 5 0 0 s (insA [] ((ez.map Prod.snd).take (k + 1))))]) from fun W' j2 e2 F2 h => by
            refine Calls.mono (h.put_ hRh.out hNh.out.2.2 (by have := hGh.out.few; omega) ⟨5, j, j2, 0, []⟩ (.mk 5 0 0 s (insA [] ((ez.map Prod.snd).take (k + 1)))) (fun made hm => ?_) (hGh.out.pre (k + 1)).1 (hGh.out.pre (k + 1)).2 (by simp)) fun (r : Ending) (W3 : World) hr => ?_
            · have hp1 := hGh.out.pre (k + 1)
              rw [htk, insA_app] at hp1 ⊢
              exact st_exp (hm _ (List.mem_cons_of_mem _ List.mem_cons_self)) (hm _ List.mem_cons_self) (hGh.out.exps z.2 (List.mem_of_getElem? hzs)).2 (by rw [insA_len, List.length_take, List.length_map]; have := hGh.out.few; omega) hp1.1 hp1.2
            · obtain ⟨j3, e3, h1, h2⟩ := hr
              exact ⟨j3, e3, h1, h2.few (by simp) rfl⟩)
          clear hz hze hzn hmk1 hM1 hy3 hzs htk
          go_wp2_with (first
            | (go_at_call 37; (with_reducible refine cM.out.mono ?_); rintro r w2 ⟨j2, e2, F2, rfl, h2⟩
               have cQ := Lib.hid (cP.out w2 j2 e2 F2 h2)
               clear h2)
            | (go_at_call 103; (with_reducible refine cQ.out.mono ?_); rintro r w3 ⟨j3, e3, rfl, h3⟩; replace h3 := Lib.hid h3))
          go_roundw
          case rel => exact ⟨k + 1, j3, 1, e3, F2, by omega, rfl, by go_num, Lib.hid ⟨fun _ => rfl, h3.out⟩⟩
          case measure => simp [intOf]; omega
        · have hke : k = ez.length := by omega
          have hfin := Lib.hid (show CkR V1 W m q bm Ls known sent (M - 1) 34 1 kl F (.mk 5 0 0 s (ez.map Prod.snd)) (.returned (.int .i64 j)) wr from by
            obtain ⟨h1, h2⟩ := hP.out
            rw [h1 hke] at h2
            refine CkR.from_ hBWh.out (h2.done (by have := hGh.out.few; omega) ?_)
            rw [hke, List.take_of_length_le (by simp), hGh.out.all]
            simp)
          clear hP
          go_wp2_with fail
          go_ret
          exact hfin.out
    · obtain ⟨it, hit, hgt⟩ := hN.back hy
      have hyo : y.ok := hgood.ok y (get_mem hgt)
      obtain ⟨A3, c3, e3, hI3⟩ := hov.ints
      rw [List.length_map] at e3 hI3
      subst e3
      have hvI : ∀ W', StayK W2 W' → Ints W' A3 ms.length (ms.map Prod.fst) := fun W' h => by
        have hzr : OwnD W' W1.heap.size (.slice A3 ms.length c3) (ms.map Prod.fst) := OwnR.stayK hov h (by decide) (by decide)
        obtain ⟨A4, c4, e4, hI4⟩ := hzr.ints
        rw [List.length_map] at e4 hI4
        injection e4 with e41 _ _
        rw [e41]
        exact hI4
      have hG := RsG.of hxh.out.2.1 hyo hky hme hr1 hr2 hnd
      obtain ⟨b1, o1, k0, k1, rfl, k2⟩ := hVW.at_ hit
      have hjl : (jj : Int) < (its.length : Int) := by
        have := (List.getElem?_eq_some_iff.1 hit).1
        omega
      have hn100 : its.length ≤ 100 := hVW.few
      have hms : ms.length ≤ 8 := by have := hG.few; omega
      have hj1 : ((jj : Int) == -1) = false := by rw [beq_eq_false_iff_ne]; omega
      obtain ⟨M1, hM1', hmk1⟩ := hmlh.out jj y hj hy
      have hne : ms.length ≠ 0 := fun h0 => hxh.out.2.2 (by
        have ha := hG.all
        rw [List.length_eq_zero_iff.1 h0] at ha
        have ha : y.args = ez.map Prod.snd := ha
        have := share_eta hyo hky
        rw [hsy, ha] at this
        rw [← this]
        exact mem_take hy hj)
      have cM : Calls Tryz.prog 37 #[.pointer (some ⟨q, 0, none⟩), .int .i64 it.t, .int .i64 ((jj : Int) + 1)] W2 (fun r W3 => ∃ (j kk : Nat) (e' : List Mk) (F2 : Int → Option Int), r = .returned (.int .i64 j) ∧ Hid (Full 0 ms.length kk ∧ CkS V1 W2 W3 m q bm Ls known sent (M - 1) (0 + 1) kk kl F e' F2 [(j, .mk 5 0 0 s (insA y.args ((ms.map Prod.snd).take 0)))])) :=
        Calls.mono (hS2.make_ hR (by decide) hM1' (by omega) hgt hmk1) fun (r : Ending) (W3 : World) hr => by
          obtain ⟨j, e, F2, h1, h2⟩ := hr
          have he := share_eta hyo hky
          rw [hsy] at he
          refine ⟨j, 0, e, F2, h1, Lib.hid ⟨fun h => absurd h.symm hne, ?_⟩⟩
          show CkS V1 W2 W3 m q bm Ls known sent (M - 1) (0 + 1) 0 kl F e F2 [(j, .mk 5 0 0 s y.args)]
          rw [← he]
          exact h2.more (by decide)
      replace cM := Lib.hid cM
      clear hit hgt hyo hky hsy hov hme hr1 hr2 hnd hS2 hc2 hVW d2 hN hgood hR hBW hmk1 hM1' hne hj hy hI3
      go_upto_region 6 with (go_at_call 37; (with_reducible refine cM.out.mono ?_); rintro r w3 ⟨j0, kk0, e0, F0, rfl, h0⟩)
      clear cM
      have hGh := Lib.hid hG
      have hvIh := Lib.hid hvI
      clear hG hvI
      go_wp2_with fail
      go_loopw [10, 49] (fun vv iv wr => ∃ (k j kk : Nat) (e : List Mk) (F' : Int → Option Int), k ≤ ms.length ∧ vv = .int .i64 j ∧ iv = .int .i64 k ∧ Hid (Full k ms.length kk ∧ CkS V1 W2 wr m q bm Ls known sent (M - 1) (k + 1) kk kl F e F' [(j, .mk 5 0 0 s (insA y.args ((ms.map Prod.snd).take k)))])) (fun _ iv _ => ms.length - (intOf iv).toNat)
      case atStart => exact ⟨0, _, _, _, _, Nat.zero_le _, rfl, rfl, h0⟩
      case round =>
        clear h0
        obtain ⟨k, j, kk, e, F', hk, rfl, rfl, hP⟩ := hrel
        by_cases hlt : k < ms.length
        · have hlt' : (k : Int) < (ms.length : Int) := by omega
          obtain ⟨z, hz⟩ : ∃ z, ms[k]? = some z := ⟨ms[k], List.getElem?_eq_getElem hlt⟩
          obtain ⟨hze, hzn⟩ := hGh.out.nd z (List.mem_of_getElem? hz)
          obtain ⟨M1, hM1, hmk1⟩ := hmkh.out z hze hzn
          obtain ⟨b3, o3, y3, rfl, hb3, hy3, hc3⟩ := (hvIh.out wr hP.out.2.stay).at_ hlt
          rw [List.getElem?_map, hz] at hy3
          obtain rfl : z.1 = y3 := Option.some.inj hy3
          have hzs : (ms.map Prod.snd)[k]? = some z.2 := by rw [List.getElem?_map, hz]; rfl
          have htk := take_succ_of hzs
          have cM := Lib.hid (hP.out.2.make_ hRh.out (by have := hGh.out.few; omega) hM1 (by omega) (hxh.out.1 z hze) hmk1)
          have cP := Lib.hid (show ∀ (W' : World) (j2 : Nat) (e2 : List Mk) (F2 : Int → Option Int), CkS V1 W2 W' m q bm Ls known sent (M - 1) (k + 1) 0 kl F e2 F2 [(j2, z.2), (j, .mk 5 0 0 s (insA y.args ((ms.map Prod.snd).take k)))] →
              Calls Tryz.prog 103 #[.pointer (some ⟨q, 0, none⟩), .agg #[.int .i64 5, .int .i64 j, .int .i64 j2, .int .i64 0, .string ⟨#[]⟩]] W' (fun r W3 => ∃ (j3 : Nat) (e3 : List Mk), r = .returned (.int .i64 j3) ∧ CkS V1 W2 W3 m q bm Ls known sent (M - 1) (k + 1 + 1) 1 kl F e3 F2 [(j3, .mk 5 0 0 s (insA y.args ((ms.map Prod.snd).take (k + 1))))]) from fun W' j2 e2 F2 h => by
            refine Calls.mono (h.put_ hRh.out hNh.out.2.2 (by have := hGh.out.few; omega) ⟨5, j, j2, 0, []⟩ (.mk 5 0 0 s (insA y.args ((ms.map Prod.snd).take (k + 1)))) (fun made hm => ?_) (hGh.out.pre (k + 1)).1 (hGh.out.pre (k + 1)).2 (by simp)) fun (r : Ending) (W3 : World) hr => ?_
            · have hp1 := hGh.out.pre (k + 1)
              rw [htk, insA_app] at hp1 ⊢
              exact st_exp (hm _ (List.mem_cons_of_mem _ List.mem_cons_self)) (hm _ List.mem_cons_self) (hGh.out.exps z.2 (List.mem_of_getElem? hzs)).2 (by rw [insA_len, List.length_take, List.length_map]; have := hGh.out.few; omega) hp1.1 hp1.2
            · obtain ⟨j3, e3, h1, h2⟩ := hr
              exact ⟨j3, e3, h1, h2.few (by simp) rfl⟩)
          clear hz hze hzn hmk1 hM1 hy3 hzs htk
          go_wp2_with (first
            | (go_at_call 37; (with_reducible refine cM.out.mono ?_); rintro r w2 ⟨j2, e2, F2, rfl, h2⟩
               have cQ := Lib.hid (cP.out w2 j2 e2 F2 h2)
               clear h2)
            | (go_at_call 103; (with_reducible refine cQ.out.mono ?_); rintro r w3 ⟨j3, e3, rfl, h3⟩; replace h3 := Lib.hid h3))
          go_roundw
          case rel => exact ⟨k + 1, j3, 1, e3, F2, by omega, rfl, by go_num, Lib.hid ⟨fun _ => rfl, h3.out⟩⟩
          case measure => simp [intOf]; omega
        · have hke : k = ms.length := by omega
          have hfin := Lib.hid (show CkR V1 W m q bm Ls known sent (M - 1) 34 1 kl F (.mk 5 0 0 s (ez.map Prod.snd)) (.returned (.int .i64 j)) wr from by
            obtain ⟨h1, h2⟩ := hP.out
            rw [h1 hke] at h2
            refine CkR.from_ hBWh.out (h2.done (by have := hGh.out.few; omega) ?_)
            rw [hke, List.take_of_length_le (by simp), hGh.out.all]
            simp)
          clear hP
          go_wp2_with fail
          go_ret
          exact hfin.out
end Go.Proofs.YtphnakdgpilcmaaGreatDoor
