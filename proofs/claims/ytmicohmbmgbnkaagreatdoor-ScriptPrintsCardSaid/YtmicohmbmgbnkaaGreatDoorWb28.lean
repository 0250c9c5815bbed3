/- The reference's Line: under way. -/
import Derived.Test.YtmicohmbmgbnkaaGreatDoorWb27
import Derived.Test.YtmicohmbmgbnkaaGreatDoorWb5
namespace Go.Proofs.YtmicohmbmgbnkaaGreatDoor
open Go Go.RowKit Go.Shelf

theorem results_tmp_cell {P : Program} {fn : Func} {p u : Tmp} {ty : TypeId} (h : fn.results = #[.tmp u, .cell p ty]) (tmps : Array Value) (w : World) (g : Nat) (t : TypeId) (cs : Array Value) (fr : Nat × Nat) (d : TypeDesc) (v : Value)
    (hp : tmps.getD p undef = .pointer (some ⟨g, 0, none⟩)) (hg : w.heap[g]? = some (.cells cs t fr))
    (hu : P.underlying ty = some d) (hd : (match d with | .struct _ | .array _ _ => true | _ => false) = true) (hi : (P.info? ty).map (·.size) = some cs.size) (hv : tmps.getD u undef = v) :
    (results fn tmps).run P w = .ok (.tuple #[v, .agg cs]) w := by
  have hp' : tmps[p]?.getD undef = .pointer (some ⟨g, 0, none⟩) := by simpa using hp
  have hv' : tmps[u]?.getD undef = v := by simpa using hv
  simp [results, h, hp', hv', asAddr, run_loadVar_row w g t ty cs fr d hg hu hd hi]
def erZ : Array Value := #[.int .i64 0, .string ByteArray.empty]
theorem er_zero : (Tryz.prog.info? 53).bind (·.zero) = some (.agg erZ) := by kernel_rfl
theorem kinds_at {W : World} {A : Option Addr} {k : Nat} (h : Strs W A 9 (kindW.map bs)) (hk : k < 9) : ∃ b off, A = some ⟨b, off, none⟩ ∧ W.cell? ⟨b, off + k, none⟩ = some (.string (bs (kindW.getD k []))) := by
  obtain ⟨b', off, s, e, hlt, hs, hcell⟩ := h.at_ hk
  rw [List.getElem?_map, List.getElem?_eq_getElem (show k < kindW.length from hk)] at hs
  simp only [Option.map_some, Option.some.injEq] at hs
  refine ⟨b', off, e, ?_⟩
  rw [hcell, List.getD_eq_getElem?_getD, List.getElem?_eq_getElem (show k < kindW.length from hk), ← hs]
  rfl
theorem keys_at {W : World} {b j : Nat} {kg : List UInt8 × Tag} (h : Strs W (some ⟨b, 0, none⟩) 26 ((keyT.map (fun x : List UInt8 × Tag => x.1)).map bs)) (hk : keyT[j]? = some kg) (hj : j < 26) : (b < W.heap.size ∧ W.cell? ⟨b, j, none⟩ = some (.string (bs kg.1))) ∧ (bs kg.1).size ≤ 20 := by
  obtain ⟨b', off, s, e, hlt, hs, hcell⟩ := h.at_ hj
  obtain ⟨rfl, rfl⟩ : b = b' ∧ 0 = off := by injection e with e; injection e with e1 e2; exact ⟨e1, e2⟩
  have h2 := key_small ⟨j, hj⟩
  rw [List.getD_eq_getElem?_getD] at h2
  rw [List.getElem?_map, List.getElem?_map, hk] at hs
  rw [List.getElem?_map, hk] at h2
  rw [Nat.zero_add] at hcell
  obtain rfl := Option.some.inj hs
  exact ⟨⟨hlt, hcell⟩, h2⟩
theorem kind_small : ∀ j : Fin 9, (bs (kindW.getD j.1 [])).size ≤ 10 := by decide +kernel
def dsLn : List (Option Nat) := [some 42, some 43, some 44, some 45, some 46, some 5]
def tbLn : List (List Nat) := [[], [], [1], [0, 2], [3], [4]]
def vsLn (p : Nat) (ki : Nat) (yk : ByteArray) : List (Option Value) := [none, some (.pointer (some ⟨p, 0, none⟩)), some (.int .i64 (ki : Int)), none, some (.string yk), some (.string yk)]
set_option maxRecDepth 100000 in
set_option maxHeartbeats 8000000 in
theorem rline_good (cs : List Value) (k : Int) (vs : List PV) (w : World) (hS : StC w k vs cs) (hok : OkVs keyT vs) (hk : 0 ≤ k ∧ k < 9) (hsz : ∀ v ∈ vs, (wrPV v).length ≤ 1099511627776) :
    Calls Tryz.prog 20 #[.agg cs.toArray] w fun r w' => r = .returned (.tuple #[.string (bs (lineX k vs)), .agg erZ]) ∧ Below w.heap.size w w' := by
  obtain ⟨l, hl3, hol, hty3⟩ := hok.ty.ops
  have hop := hok.at (i := 3) rfl hl3
  obtain ⟨z, ⟨v, rfl, A, c, rfl, h1, h2, hr⟩, hz⟩ := hS.val 3 27 _ hl3 rfl
  rw [List.length_map] at hr h1 hz
  obtain ⟨n, hn⟩ : ∃ n, l.length = n := ⟨_, rfl⟩
  rw [hn] at hr h1 hz
  have h27 := hz 0 _ rfl
  have hB1 := below_new w (.cells cs.toArray 44)
  have hb : Blk (w.alloc (.cells cs.toArray 44)) w.heap.size cs := heap_new w _
  have hB2 := below_new (w.alloc (.cells cs.toArray 44)) (.cells erZ 53)
  have hg2 := heap_new (w.alloc (.cells cs.toArray 44)) (.cells erZ 53)
  simp only [World.size_alloc] at hg2
  obtain ⟨W2, hW2⟩ : ∃ x, (w.alloc (.cells cs.toArray 44)).alloc (.cells erZ 53) = x := ⟨_, rfl⟩
  have hB := hB1.trans (hB2.mono hB1.size)
  have hblk := (hB2.block w.heap.size (Array.getElem?_eq_some_iff.1 hb).1).trans hb
  rw [hW2] at hB hg2 hblk
  have hc0 : W2.cell? ⟨w.heap.size, 0, none⟩ = some (.int .i64 k) := Blk.cell hblk hS.kind
  have hlt1 := (Array.getElem?_eq_some_iff.1 hblk).1
  have hlt2 := (Array.getElem?_eq_some_iff.1 hg2).1
  have hc27 := Lib.hid (fun W' (h : Below W2.heap.size W2 W') => (h.cell (p := ⟨w.heap.size, 27, none⟩) hlt1).trans (Blk.cell hblk h27))
  have hrK := Lib.hid (hr.keep hB)
  have hnh := Lib.hid hn
  have hoph := Lib.hid hop
  have hz27 := hc27.out W2 (Below.refl _ _)
  clear hz hr h27 hb hB1 hB2 hn hol hty3 hop
  have hk1 : ¬ k < 0 := by omega
  have hk2 : ¬ 8 < k := by omega
  replace hB := Lib.hid hB
  replace hg2 := Lib.hid hg2
  replace hblk := Lib.hid hblk
  go_enter Tryz.func20, Tryz.ntmps20
  go_upto_region 1 with (first
    | (refine wpList_box_row 44 _ rfl rfl cs.toArray rfl ?_)
    | (refine wpList_alloc_row 53 rfl rfl erZ er_zero ?_; try simp only [World.size_alloc]))
  rw [hW2]
  clear hW2
  go_wp2_with fail
  go_loopw [4] (fun jv wr => ∃ i : Nat, i ≤ n ∧ jv = .int .i64 i ∧ Hid (wr = W2)) (fun jv _ => n - (intOf jv).toNat)
  case atStart => exact ⟨0, Nat.zero_le _, rfl, Lib.hid rfl⟩
  case round =>
    obtain ⟨i, hi, rfl, hwr⟩ := hrel
    obtain rfl := hwr.out
    by_cases hlt : i < n
    · have hlt' : (i : Int) < (n : Int) := by omega
      obtain ⟨b2, off2, z2, rfl, hb2, hz2, _, hr2⟩ := Rws.row hrK.out hlt
      obtain ⟨o, ho, rfl⟩ := map_at hz2
      have hko := hoph.out o (List.mem_of_getElem? ho)
      obtain ⟨h0, h15, _, _, _⟩ := hko
      obtain ⟨kk, xa, xb, xc, us⟩ := o
      dsimp only at h0 h15
      have hck : wr.cell? ⟨b2, off2 + i * 5, none⟩ = some (.int .i64 kk) := hr2 0 _ rfl
      have hkk1 : ¬ kk < 0 := by omega
      have hkk2 : ¬ 14 < kk := by omega
      clear hz2 ho hr2
      go_wp2_with fail
      go_roundw
      case rel => exact ⟨i + 1, by omega, by go_num, trivial⟩
      case measure => simp [intOf]; omega
    · obtain rfl : i = n := by omega
      go_upto_region 8 with fail
      obtain ⟨ki, rfl⟩ := Int.eq_ofNat_of_zero_le hk.1
      have hki : ki < 9 := by omega
      have hCl := Lib.hid (fun W' (h : Below wr.heap.size wr W') => (h.cell (p := ⟨w.heap.size, 0, none⟩) hlt1).trans hc0)
      have cK := Lib.hid (fun W' => rkinds_any W')
      have hat := Lib.hid (fun A' W' (h : Strs W' A' 9 (kindW.map bs)) => kinds_at h hki)
      have hky := kind_small ⟨ki, hki⟩
      have hle := hok.len
      rw [keyT_len] at hle
      have hend := accL_end (k := (ki : Int)) hk.1 hle hk.2
      unfold kwB at hend
      rw [if_pos hk, Int.toNat_natCast] at hend
      replace hend := Lib.hid hend
      have hkl := hky
      rw [bs_size] at hkl
      have hacc0 := congrArg bs (accL_zero (kindW.getD ki []) vs)
      generalize hkw : bs (kindW.getD ki []) = yk at *
      have hk3 := Lib.hid hki
      generalize kindW.getD ki [] = kw at *
      replace hacc0 := Lib.hid hacc0
      have cV := Lib.hid (fun W' (h : Below w.heap.size w W') j v hv => rvalue_any cs (ki : Int) vs W' (hS.keep h) hok hsz j v hv)
      have hinf : (Tryz.prog.info? 44).map (·.size) = some cs.length := by rw [hS.len]; kernel_rfl
      have cKy := Lib.hid (fun W' => rkeys_any W')
      refine region_iw tbLn dsLn (vsLn (w.heap.size) ki yk) (fun L T W => Below wr.heap.size wr W ∧ (L 0 = true → L 3 = false → ∃ A', T.getD 42 undef = .slice A' 9 9 ∧ Strs W A' 9 (kindW.map bs)) ∧ (L 3 = true → L 4 = false → ∃ a', T.getD 45 undef = .pointer (some a') ∧ W.cell? a' = some (.string yk))) rfl (by decide) (by kernel_rfl) ?hlt ?hstep ?hdone ?hstart
      case hstart => exact ⟨drewN_below 1, fun h => absurd h (inv_not (n := 6) (i := 0) (by decide)), fun h => absurd h (inv_not (n := 6) (i := 3) (by decide))⟩
      case hlt =>
        intro ix o ho
        have hi := (Array.getElem?_eq_some_iff.1 ho).1
        match ix, hi with
        | 0, _ => obtain rfl := Option.some.inj ho; decide
        | 1, _ => obtain rfl := Option.some.inj ho; decide
        | 2, _ => obtain rfl := Option.some.inj ho; decide
        | 3, _ => obtain rfl := Option.some.inj ho; decide
        | 4, _ => obtain rfl := Option.some.inj ho; decide
        | 5, _ => obtain rfl := Option.some.inj ho; decide
      case hstep =>
        intro T1 hE L T W ix o hF hW hc ho hLi hd K hK
        have hN : T1.size = 71 := by rw [hE]; rfl
        have f1 : T.getD 1 undef = .pointer (some ⟨(w.heap.size), 0, none⟩) := (hF.old 1 (by decide)).trans (by rw [hE]; rfl)
        clear hE
        replace hF := Lib.hid hF
        replace hW := Lib.hid hW
        replace hK := Lib.hid hK
        have hi := (List.getElem?_eq_some_iff.1 ho).1
        match ix, hi with
        | 0, _ =>
          obtain rfl := Option.some.inj ho
          have n3 : ¬ L 3 = true := fun h => by have := hc 3 0 h (by decide); rw [hLi] at this; cases this
          have cc := Lib.hid (cK.out W)
          clear hd ho hi hc
          refine st_call (want_none rfl) (by unfold execOp; go_simp) cc.out ?_
          rintro r w3 ⟨A', rfl, hS3, hb⟩
          exact ⟨_, rfl, hK.out _ _ (hF.out.put (k := 0) (s := 42) rfl (by decide) hN (by decide) (fun u hu => by cases hu) (by dsimp only; rw [gd_ne (show 42 ≠ 45 by decide)]; exact (by rw [gd_eq (by rw [hF.out.size, hN]; decide)]; exact ⟨hW.out.1.trans (hb.mono hW.out.1.size), fun _ _ => ⟨A', rfl, hS3⟩, fun h => absurd h n3⟩)))⟩
        | 1, _ =>
          obtain rfl := Option.some.inj ho
          clear hd ho hi hc hLi
          exact st_val (v := .pointer (some ⟨(w.heap.size), 0, none⟩)) (w' := W) (want_none rfl) (by unfold execOp; dsimp only [Act.eval]; simp only [f1]; go_simp) (hK.out _ _ (hF.out.putv (k := 1) (s := 43) rfl (by decide) hN (by decide) rfl (by dsimp only; rw [gd_ne (show 43 ≠ 42 by decide), gd_ne (show 43 ≠ 45 by decide)]; exact hW.out)))
        | 2, _ =>
          obtain rfl := Option.some.inj ho
          have l1 : L 1 = true := dep_of hd (n := 1) (by decide)
          have e43 : T.getD 43 undef = .pointer (some ⟨(w.heap.size), 0, none⟩) := hF.out.val 1 43 _ l1 rfl rfl
          have hcc := hCl.out W hW.out.1
          clear hd ho hi hc hLi
          exact st_val (v := .int .i64 (ki : Int)) (w' := W) (want_none rfl) (by unfold execOp; dsimp only [Act.eval]; simp only [e43]; go_simp) (hK.out _ _ (hF.out.putv (k := 2) (s := 44) rfl (by decide) hN (by decide) rfl (by dsimp only; rw [gd_ne (show 44 ≠ 42 by decide), gd_ne (show 44 ≠ 45 by decide)]; exact hW.out)))
        | 3, _ =>
          obtain rfl := Option.some.inj ho
          have l0 : L 0 = true := dep_of hd (n := 0) (by decide)
          have l2 : L 2 = true := dep_of hd (n := 2) (by decide)
          have e44 : T.getD 44 undef = .int .i64 (ki : Int) := hF.out.val 2 44 _ l2 rfl rfl
          obtain ⟨A', e42, hS3⟩ := hW.out.2.1 l0 hLi
          obtain ⟨b', off', rfl, hcl⟩ := hat.out A' W hS3
          have hki3 := hk3.out
          have hki4 : (ki : Int) < 9 := by omega
          clear hd ho hi hc
          exact st_val (v := .pointer (some ⟨b', off' + ki, none⟩)) (w' := W) (want_none rfl) (by unfold execOp; dsimp only [Act.eval]; simp only [e42, e44]; go_simp) (hK.out _ _ (hF.out.put (k := 3) (s := 45) rfl (by decide) hN (by decide) (fun u hu => by cases hu) (by dsimp only; rw [gd_ne (show 45 ≠ 42 by decide)]; exact (by rw [gd_eq (by rw [hF.out.size, hN]; decide)]; exact ⟨hW.out.1, fun _ h => absurd h (by simp), fun _ _ => ⟨⟨b', off' + ki, none⟩, rfl, hcl⟩⟩))))
        | 4, _ =>
          obtain rfl := Option.some.inj ho
          have l3 : L 3 = true := dep_of hd (n := 3) (by decide)
          obtain ⟨a', e45, hcl⟩ := hW.out.2.2 l3 hLi
          clear hd ho hi hc
          exact st_val (v := .string yk) (w' := W) (want_none rfl) (by unfold execOp; dsimp only [Act.eval]; simp only [e45]; go_simp) (hK.out _ _ (hF.out.putv (k := 4) (s := 46) rfl (by decide) hN (by decide) rfl (by dsimp only; rw [gd_ne (show 46 ≠ 42 by decide), gd_ne (show 46 ≠ 45 by decide)]; exact ⟨hW.out.1, hW.out.2.1, fun _ h => absurd h (by simp)⟩)))
        | 5, _ =>
          obtain rfl := Option.some.inj ho
          have l4 : L 4 = true := dep_of hd (n := 4) (by decide)
          have e46 : T.getD 46 undef = .string yk := hF.out.val 4 46 _ l4 rfl rfl
          clear hd ho hi hc hLi
          exact st_val (v := .string yk) (w' := W) (want_none rfl) (by unfold execOp; dsimp only [Act.eval]; simp only [e46]; go_simp) (hK.out _ _ (hF.out.putv (k := 5) (s := 5) rfl (by decide) hN (by decide) rfl (by dsimp only; rw [gd_ne (show 5 ≠ 42 by decide), gd_ne (show 5 ≠ 45 by decide)]; exact hW.out)))
      case hdone =>
        intro L T W2 hF hW hall
        obtain ⟨z42, e42⟩ : ∃ z, T.getD 42 undef = z := ⟨_, rfl⟩
        obtain ⟨z45, e45⟩ : ∃ z, T.getD 45 undef = z := ⟨_, rfl⟩
        have hB5 := Lib.hid hW.1
        clear hW
        have hT : T = #[.agg cs.toArray, .pointer (some ⟨(w.heap.size), 0, none⟩), u2, .pointer (some ⟨w.heap.size + 1, 0, none⟩), .int .i64 ↑i, .string yk, undef, undef, undef, .pointer (some ⟨w.heap.size, 0, none⟩), .int .i64 ↑ki, .bool false, .bool false, .pointer (some ⟨w.heap.size, 0, none⟩), .int .i64 ↑ki, .bool false, .bool false, undef, .int .i64 ↑i, .pointer (some ⟨w.heap.size, 27, none⟩), .slice A i c, .int .i64 ↑i, .bool false, u23, u24, u25, u26, u27, u28, u29, u30, u31, u32, u33, u34, u35, u36, u37, u38, u39, u40, u41, z42, .pointer (some ⟨(w.heap.size), 0, none⟩), .int .i64 (ki : Int), z45, .string yk, undef, undef, undef, undef, undef, undef, undef, undef, undef, undef, undef, undef, undef, undef, undef, undef, undef, undef, undef, undef, undef, undef, undef, undef] := (hF.fin [(42, z42), (43, .pointer (some ⟨(w.heap.size), 0, none⟩)), (44, .int .i64 (ki : Int)), (45, z45), (46, .string yk), (5, .string yk)] [42, 43, 44, 45, 46, 5] rfl (List.forall_mem_cons.2 ⟨e42, (List.forall_mem_cons.2 ⟨hF.val 1 _ _ (hall 1 (show 1 < 6 by decide)) rfl rfl, (List.forall_mem_cons.2 ⟨hF.val 2 _ _ (hall 2 (show 2 < 6 by decide)) rfl rfl, (List.forall_mem_cons.2 ⟨e45, (List.forall_mem_cons.2 ⟨hF.val 4 _ _ (hall 4 (show 4 < 6 by decide)) rfl rfl, (List.forall_mem_cons.2 ⟨hF.val 5 _ _ (hall 5 (show 5 < 6 by decide)) rfl rfl, (fun _ h => absurd h List.not_mem_nil)⟩)⟩)⟩)⟩)⟩)⟩) (by decide)).trans (by kernel_rfl)
        clear hF hall
        subst hT
        clear e42 e45
        go_wp2_with (go_at_call 42; (with_reducible refine (cKy.out _).mono ?_); rintro r W4 ⟨kb, rfl, hK4, hb4⟩; have hB4 := Lib.hid (hB5.out.trans (hb4.mono hB5.out.size)); replace hK4 := Lib.hid hK4; clear hb4)
        have hBW4 := Lib.hid (hB.out.trans (hB4.out.mono hB.out.size))
        have hblk4 := Lib.hid (fun W' (h : Below W4.heap.size W4 W') => And.intro (((hB4.out.trans (h.mono hB4.out.size)).block w.heap.size hlt1).trans hblk.out) (((hB4.out.trans (h.mono hB4.out.size)).block (w.heap.size + 1) hlt2).trans hg2.out))
        have hl0 : Hid ((accL kw vs 0).length ≤ 10 + 0 * 1099511627800) := Lib.hid (by rw [accL_zero]; omega)
        go_loopw [5, 7, 8] (fun sv5 jv v8 wq => ∃ j : Nat, j ≤ 26 ∧ jv = .int .i64 j ∧ sv5 = .string (bs (accL kw vs j)) ∧ Hid ((accL kw vs j).length ≤ 10 + j * 1099511627800) ∧ Hid (Below W4.heap.size W4 wq)) (fun _ jv _ _ => 26 - (intOf jv).toNat)
        case atStart => exact ⟨0, by decide, rfl, by rw [hacc0.out], hl0, Lib.hid (Below.refl _ _)⟩
        case round =>
          clear hl0
          obtain ⟨j, hj, rfl, rfl, hlen, hB6⟩ := hrel
          have hBq := Lib.hid (hBW4.out.trans (hB6.out.mono hBW4.out.size))
          obtain ⟨hbk, hbe⟩ := hblk4.out wr hB6.out
          by_cases hlt : j < 26
          · have hlt' : (j : Int) < 26 := by omega
            obtain ⟨v, hv⟩ : ∃ v, vs[j]? = some v := ⟨vs[j]'(by omega), List.getElem?_eq_getElem (by omega)⟩
            obtain ⟨kg, hkg⟩ : ∃ kg, keyT[j]? = some kg := ⟨_, List.getElem?_eq_getElem (by rw [keyT_len]; exact hlt)⟩
            have hstj := accL_step (w := kw) hkg hv
            have hlv := hsz v (List.mem_of_getElem? hv)
            have cVj := Lib.hid (cV.out wr hBq.out j v hv)
            have hrow : wr.rangeAt w.heap.size 0 cs := rangeAt_list hbk
            obtain ⟨key, g⟩ := kg
            obtain ⟨hkc, hk20⟩ := keys_at hK4.out hkg hlt
            have hkc6 := Lib.hid (fun W' (h : Below W4.heap.size W4 W') => (h.cell (p := ⟨kb, j, none⟩) hkc.1).trans hkc.2)
            dsimp only at hstj hk20
            have hl2 := hlen.out
            clear hkg hv hkc hbk hbe
            by_cases hv0 : wrPV v = []
            · rw [if_pos hv0] at hstj
              have he : (bs (wrPV v)).toList.isEmpty = true := by rw [bs_nil, decide_eq_true hv0]
              have hlen2 := Lib.hid (show (accL kw vs (j + 1)).length ≤ 10 + (j + 1) * 1099511627800 by rw [hstj]; exact Nat.le_trans hl2 (Nat.add_le_add_left (Nat.mul_le_mul_right _ (Nat.le_succ j)) _))
              replace hstj := Lib.hid hstj
              generalize bs (wrPV v) = yv at *
              go_wp2_with (first
                | (refine wpList_load_at 44 _ rfl rfl w.heap.size 0 rfl cs _ hrow Tryz.underlying44 rfl hinf ?_)
                | (go_at_call 43; (with_reducible refine cVj.out.mono ?_); rintro r w5 ⟨rfl, hb5⟩; have hB7 := Lib.hid (hB6.out.trans (hb5.mono hB6.out.size))))
              go_roundw
              case rel => exact ⟨j + 1, by omega, by go_num, by rw [hstj.out], hlen2, hB7⟩
              case measure => simp [intOf]; omega
            · rw [if_neg hv0] at hstj
              have he : (bs (wrPV v)).toList.isEmpty = false := by rw [bs_nil, decide_eq_false hv0]
              have hkl9 : key.length ≤ 20 := by rw [bs_size] at hk20; exact hk20
              have hlen2 := Lib.hid (show (accL kw vs (j + 1)).length ≤ 10 + (j + 1) * 1099511627800 by rw [hstj, Nat.succ_mul]; simp only [List.length_append, List.length_cons]; exact len_step hl2 hkl9 hlv)
              have hbt : bs (accL kw vs (j + 1)) = bs (accL kw vs j) ++ ⟨#[32]⟩ ++ bs key ++ ⟨#[61]⟩ ++ bs (wrPV v) := by rw [hstj, bs_tok]; simp only [ByteArray.append_assoc]
              have hya : (bs (accL kw vs j)).size ≤ 10 + 26 * 1099511627800 := by rw [bs_size]; exact Nat.le_trans hl2 (Nat.add_le_add_left (Nat.mul_le_mul_right _ hj) _)
              have hyv : (bs (wrPV v)).size ≤ 1099511627776 := by rw [bs_size]; exact hlv
              replace hbt := Lib.hid hbt
              clear hv0 hstj hl2 hlv
              generalize bs (wrPV v) = yv at *
              generalize bs (accL kw vs j) = ya at *
              generalize bs key = ky at *
              have hz1 : ¬ 9223372036854775807 < ya.size + 1 := by omega
              have hz2 : ¬ 9223372036854775807 < ya.size + 1 + ky.size := by omega
              have hz3 : ¬ 9223372036854775807 < ya.size + 1 + ky.size + 1 := by omega
              have hz4 : ¬ 9223372036854775807 < ya.size + 1 + ky.size + 1 + yv.size := by omega
              go_wp2_with (first
                | (refine wpList_load_at 44 _ rfl rfl w.heap.size 0 rfl cs _ hrow Tryz.underlying44 rfl hinf ?_)
                | (go_at_call 43; (with_reducible refine cVj.out.mono ?_); rintro r w5 ⟨rfl, hb5⟩; have hB7 := Lib.hid (hB6.out.trans (hb5.mono hB6.out.size)); have hkc7 := hkc6.out w5 hB7.out))
              go_roundw
              case rel => exact ⟨j + 1, by omega, by go_num, by rw [hbt.out], hlen2, hB7⟩
              case measure => simp [intOf]; omega
          · obtain rfl : j = 26 := by omega
            clear hbk
            go_wp2_with (first
              | (refine wpList_build_as 53 _ rfl rfl erZ (by kernel_rfl) ?_)
              | (refine wpList_store_at 53 _ _ rfl rfl (w.heap.size + 1) erZ rfl rfl 53 erZ hbe (by kernel_rfl) rfl (by simp [erZ, Value.oneCell']) ?_))
            refine bodyPost_ret (results_tmp_cell rfl _ _ (w.heap.size + 1) 53 erZ (0, 0) _ _ rfl (hsetRow _ _ _ _ _ _ hbe) Tryz.underlying53 rfl (by kernel_rfl) rfl) rfl ⟨by rw [← hend.out]; rfl, below_setRow hBq.out (Nat.le_succ _) _⟩
end Go.Proofs.YtmicohmbmgbnkaaGreatDoor
