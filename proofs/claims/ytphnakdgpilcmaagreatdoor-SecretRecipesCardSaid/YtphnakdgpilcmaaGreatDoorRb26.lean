/- Texts joined: what each shows stands ahead of its theorems. -/
import Derived.Test.YtphnakdgpilcmaaGreatDoorRb21
import Derived.Test.YtphnakdgpilcmaaGreatDoorRb25
import Derived.Test.YtphnakdgpilcmaaGreatDoorRb13
import Derived.Test.YtphnakdgpilcmaaGreatDoorRb11
import Derived.Test.YtphnakdgpilcmaaGreatDoorRb0
import Derived.Test.YtphnakdgpilcmaaGreatDoorProg
import Derived.KernelRfl
namespace Go.Proofs.YtphnakdgpilcmaaGreatDoor
section
open Go.RowKit Go.Maps

/-- A mind beside an arena that may grow. -/
structure MindF (w0 : World) (g : Nat) (W : World) (m b : Nat) (L : List Tm) (known sent : List (Option Tm)) (its : List It) (ls : List Tm) : Prop where
  mi : MindI w0 W g m b L known sent its ls
  off : OffB W g b
theorem MindF.keep {w0 W W' : World} {g m b : Nat} {L : List Tm} {known sent : List (Option Tm)} {its : List It} {ls : List Tm} (h : MindF w0 g W m b L known sent its ls) (hb : Below W.heap.size W W') : MindF w0 g W' m b L known sent its ls := by
  obtain ⟨vn, vs, bm, h1, h2⟩ := h.off
  exact ⟨h.mi.keep hb, vn, vs, bm, (hb.block g (Array.getElem?_eq_some_iff.1 h1).1).trans h1, h2⟩
theorem Named.grow {L e : List Tm} {its : List It} {ls : List Tm} (h : Named L its ls) : Named (L ++ e) its ls := by
  unfold Named
  refine List.ext_getElem? fun j => ?_
  rw [List.getElem?_map, List.getElem?_map]
  cases hi : its[j]? with
  | none =>
    have : ls[j]? = none := by
      rw [List.getElem?_eq_none_iff] at hi ⊢
      rw [← h.len]; exact hi
    rw [this]; rfl
  | some i =>
    obtain ⟨t, ht, hg⟩ := h.at_ hi
    rw [ht]
    simp only [Option.map_some]
    rw [get_app hg]
theorem IMap.maps {w w' : World} {b n : Nat} {f : Int → Option Int} (h : IMap w b n f) (hs : ∀ es cl, w.heap[b]? = some (.map es cl) → w'.heap[b]? = some (.map es cl)) : IMap w' b n f := by
  obtain ⟨D, ⟨es, clock, hblk, F, h1, hD⟩, h2⟩ := h
  exact ⟨D, ⟨es, clock, hs es clock hblk, F, h1, hD⟩, h2⟩
theorem MindF.grow {w0 W W' : World} {g m b : Nat} {L e : List Tm} {known sent : List (Option Tm)} {its : List It} {ls : List Tm} (h : MindF w0 g W m b L known sent its ls) (hS : St w0 g W' (L ++ e)) (hY : Stay W W') (hF : MapStay g W W') : MindF w0 g W' m b (L ++ e) known sent its ls := by
  obtain ⟨⟨⟨A, c, h1⟩, h2, h3, h4⟩, h5⟩ := h
  obtain ⟨D, ⟨es, clock, hblk, _⟩, _⟩ := h1.map
  refine ⟨⟨⟨A, c, hS.below, hY m _ _ _ h1.blk (by decide) (by decide) (by decide), h1.ge, h1.bge, OwnR.stay h1.own hY (by decide) (by decide) (by decide), h1.map.maps fun es cl hb => (hF b es cl hb h5).1, h1.few, h1.wf⟩, h2.grow, h3, h4⟩, (hF b es clock hblk h5).2⟩
theorem MindF.grow_ {w0 W W' : World} {g m b : Nat} {L L' : List Tm} {o : Option Tm} {known sent : List (Option Tm)} {its : List It} {ls : List Tm} (h : MindF w0 g W m b L known sent its ls) (hS : St w0 g W' L') (hG : Grow L L' o) (hY : Stay W W') (hF : Fresh g W W') : MindF w0 g W' m b L' known sent its ls := by
  obtain ⟨e, rfl⟩ := hG.pre
  exact h.grow hS hY hF.2
theorem NewM.fix {w0 V W' : World} {g : Nat} {L : List Tm} {known sent : List (Option Tm)} {r : Ending} (hS : St w0 g V L) (h : NewM V g L known sent r W') :
    ∃ m b its ls, r = .returned (.pointer (some ⟨m, 0, none⟩)) ∧ MindF w0 g W' m b L known sent its ls ∧ Mind (haveL known sent) ls ∧ St w0 g W' L ∧ Below V.heap.size V W' := by
  obtain ⟨m, b, its, ls, rfl, ⟨⟨A, c, h1⟩, h2, h3, h4⟩, hM⟩ := h
  have hsz := hS.below.size
  refine ⟨m, b, its, ls, rfl, ⟨⟨⟨A, c, hS.below.trans (h1.below.mono hsz), h1.blk, Nat.le_trans hsz h1.ge, Nat.le_trans hsz h1.bge, OwnR.low h1.own hsz, h1.map, h1.few, h1.wf⟩, h2, h3, h4⟩, ?_⟩, hM, hS.keep h1.below, h1.below⟩
  obtain ⟨Ar, rfl, rfl, H, _⟩ := hS
  obtain ⟨D, ⟨es, cl, hbm, _⟩, _⟩ := H.map
  have := (Array.getElem?_eq_some_iff.1 hbm).1
  have hg := h1.bge
  exact ⟨_, _, _, (h1.below.block _ H.lt).trans H.blk, by omega⟩
theorem MindF.full {w0 W : World} {g m b : Nat} {L : List Tm} {known sent : List (Option Tm)} {its : List It} {ls : List Tm} (h : MindF w0 g W m b L known sent its ls) : ls.take its.length = ls := List.take_of_length_le (by rw [h.mi.nm.len]; exact Nat.le_refl _)
set_option maxRecDepth 100000 in
set_option maxHeartbeats 4000000 in
theorem makes_none {V W w0 : World} {g m b : Nat} {A : Option Addr} {c : Nat} {its : List It} {L : List Tm} {n ba : Nat} (hM : MindW V W g m b A c its) (hS : St w0 g W L) (x : Int) (hx : get L x = none) :
    Calls Tryz.prog 75 #[.pointer (some ⟨m, 0, none⟩), .int .i64 x, .int .i64 n, .map (some ba)] W fun r w' => r = .returned (.bool false) ∧ Below W.heap.size W w' := by
  have cV := Lib.hid (hS.view_none x hx)
  obtain ⟨c0, -, -⟩ := hM.c0
  clear hM hS hx
  go_enter Tryz.func75, Tryz.ntmps75
  go_upto_region 2 with (first
    | (go_at_call 23; refine cV.out.mono ?_; rintro r w2 ⟨rfl, hb2⟩
       obtain ⟨z, b3, _⟩ := nd_box2 w2 0 0 0 [] none 0 0
       have hz := Lib.hid z
       have hb3H := Lib.hid (hb2.trans (b3.mono hb2.size))
       clear hb2 z b3)
    | (refine wpList_store_at 52 _ _ rfl rfl w2.heap.size zNd.toArray rfl rfl 52 zNd.toArray hz.out (by kernel_rfl) rfl zNd_one ?_))
  have hb3 : Below W.heap.size W ((w2.alloc (.cells #[.int .i64 0, .int .i64 0, .int .i64 0, .string ⟨#[]⟩, .slice none 0 0] 52)).setRow w2.heap.size zNd.toArray) := hb3H.out
  clear hb3H hz
  generalize ((w2.alloc (.cells #[.int .i64 0, .int .i64 0, .int .i64 0, .string ⟨#[]⟩, .slice none 0 0] 52)).setRow w2.heap.size zNd.toArray) = w3 at *
  have hb3h := Lib.hid hb3
  clear hb3
  go_wp2_with fail
  go_ret
  exact ⟨rfl, hb3h.out⟩
set_option maxRecDepth 100000 in
set_option maxHeartbeats 4000000 in
theorem can_none {V V1 w0 : World} {g m b : Nat} {A : Option Addr} {c : Nat} {its : List It} {L ls : List Tm} {n ba : Nat} (hM : MindW V V1 g m b A c its) (hS : St w0 g V1 L) (hN : Named L its ls) (hba : V1.heap.size ≤ ba) (W : World) (hb : Below V1.heap.size V1 W) (x : Int) (hx : get L x = none) (hx64 : i64 x) (hI : IMap W ba 0 (fun _ => none)) :
    Calls Tryz.prog 33 #[.pointer (some ⟨m, 0, none⟩), .int .i64 x, .int .i64 n, .map (some ba)] W fun r W' => r = .returned (.bool false) ∧ Below V1.heap.size V1 W' := by
  have cH := mhas_any (hM.keep hb) x hx64 n
  have hh : hasM (itsT its) x n = false := by
    rw [Bool.eq_false_iff]
    intro h
    have hm := List.mem_of_mem_take (hasM_iff.1 h)
    obtain ⟨j, hj⟩ := List.getElem?_of_mem hm
    unfold itsT at hj
    rw [List.getElem?_map] at hj
    cases hi : its[j]? with
    | none => rw [hi] at hj; cases hj
    | some i =>
      rw [hi] at hj
      obtain ⟨t, _, hg⟩ := hN.at_ hi
      have e : i.t = x := Option.some.inj hj
      rw [e, hx] at hg
      cases hg
  rw [hh] at cH
  replace cH := Lib.hid cH
  have hl := hI.look1 hx64
  simp only [Option.getD_none] at hl
  obtain ⟨W1, hr1, hI1, hg1⟩ := hI.set_ (by omega) hx64 (i64_small (x := 2) (by decide) (by decide))
  have hK1 : Keeps (fun z => z = ba) W W1 := Keeps.of_grown hg1 fun q hq => (Option.some.inj hq).symm
  have hb1 : Below V1.heap.size V1 W1 := hb.trans (hK1.below (fun k hk => by have hk : k = ba := hk; omega) hb.size)
  have cM := Lib.hid (makes_none (n := n) (ba := ba) (hM.keep hb1) (hS.keep hb1) x hx)
  have hb1h := Lib.hid hb1
  clear hM hS hN hb hx hI hI1 hg1 hK1 hb1 hh
  go_enter Tryz.func33, Tryz.ntmps33
  go_wp2_with (first
    | (go_at_call 34; refine cH.out.mono ?_; rintro r w2 ⟨rfl, rfl⟩)
    | (go_at_call 75; refine cM.out.mono ?_; rintro r w3 ⟨rfl, hb3⟩; replace hb3 := Lib.hid (hb1h.out.trans (hb3.mono hb1h.out.size))))
  go_ret
  exact ⟨rfl, hb3.out⟩
set_option maxRecDepth 100000 in
set_option maxHeartbeats 4000000 in
theorem mCan_some {w0 W : World} {g m b : Nat} {L : List Tm} {known sent : List (Option Tm)} {its : List It} {ls : List Tm} (h : MindF w0 g W m b L known sent its ls) (hS : St w0 g W L) (x : Int) (t : Tm) (hg : get L x = some t) :
    Calls Tryz.prog 13 #[.pointer (some ⟨m, 0, none⟩), .int .i64 x] W fun r w' => ∃ q : Bool, r = .returned (.bool q) ∧ (q = true ↔ der ls t) ∧ Below W.heap.size W w' := by
  have hmm := @run_makeMap Tryz.prog
  have hfull := h.full
  obtain ⟨⟨⟨A, c, hM⟩, hN, hnd, hwhy⟩, -⟩ := h
  obtain ⟨c0, c1, c2⟩ := hM.c0
  have hb1 := below_new W (.map #[] 0)
  have htz : tsz t ≤ 131072 := Nat.le_trans (tsz_le t) (hS.good.size t (get_mem hg))
  have cC := can_all hM hS hN (Nat.le_refl _) (Nat.le_refl W.heap.size) t (W.alloc (.map #[] 0)) x (fun _ => False) (fun _ => none) 0 hb1 hg (AskOk.nil_ _ _ _) (fun _ h => h.elim) (IMap.made W) (by omega)
  rw [hfull] at cC
  have cC := Lib.hid (Calls.mono cC fun (r : Ending) (W' : World) ⟨q, f', nb', h1, h2, _, _, _, h6⟩ => (show ∃ q : Bool, r = Ending.returned (.bool q) ∧ (q = true ↔ der ls t) ∧ Below W.heap.size W W' from ⟨q, h1, h2, hb1.trans (h6.below (fun k hk => by have hk : k = W.heap.size := hk; omega) hb1.size)⟩))
  clear hM hS hN hnd hwhy hb1 htz hg hfull
  go_enter Tryz.func13, Tryz.ntmps13
  go_wp2_with (go_at_call 33; (with_reducible refine cC.out.mono ?_); rintro r w3 ⟨q, rfl, hq, hb3⟩; replace hb3 := Lib.hid hb3; replace hq := Lib.hid hq)
  go_ret
  exact ⟨q, rfl, hq.out, hb3.out⟩
theorem mCan_true {w0 W : World} {g m b : Nat} {L : List Tm} {known sent : List (Option Tm)} {its : List It} {ls : List Tm} (h : MindF w0 g W m b L known sent its ls) (hS : St w0 g W L) (x : Int) (t : Tm) (hg : get L x = some t) (hd : der ls t) :
    Calls Tryz.prog 13 #[.pointer (some ⟨m, 0, none⟩), .int .i64 x] W fun r w' => r = .returned (.bool true) ∧ Below W.heap.size W w' :=
  (mCan_some h hS x t hg).mono fun r w' ⟨q, h1, h2, h3⟩ => ⟨by rw [h1, h2.2 hd], h3⟩
theorem mCan_false {w0 W : World} {g m b : Nat} {L : List Tm} {known sent : List (Option Tm)} {its : List It} {ls : List Tm} (h : MindF w0 g W m b L known sent its ls) (hS : St w0 g W L) (x : Int) (t : Tm) (hg : get L x = some t) (hd : ¬ der ls t) :
    Calls Tryz.prog 13 #[.pointer (some ⟨m, 0, none⟩), .int .i64 x] W fun r w' => r = .returned (.bool false) ∧ Below W.heap.size W w' :=
  (mCan_some h hS x t hg).mono fun r w' ⟨q, h1, h2, h3⟩ => ⟨by rw [h1]; cases q with | false => rfl | true => exact absurd (h2.1 rfl) hd, h3⟩
set_option maxRecDepth 100000 in
set_option maxHeartbeats 4000000 in
theorem mCan_none {w0 W : World} {g m b : Nat} {L : List Tm} {known sent : List (Option Tm)} {its : List It} {ls : List Tm} (h : MindF w0 g W m b L known sent its ls) (hS : St w0 g W L) (x : Int) (hg : get L x = none) (hx : i64 x) :
    Calls Tryz.prog 13 #[.pointer (some ⟨m, 0, none⟩), .int .i64 x] W fun r w' => r = .returned (.bool false) ∧ Below W.heap.size W w' := by
  have hmm := @run_makeMap Tryz.prog
  obtain ⟨⟨⟨A, c, hM⟩, hN, hnd, hwhy⟩, -⟩ := h
  obtain ⟨c0, c1, c2⟩ := hM.c0
  have hb1 := below_new W (.map #[] 0)
  have cC := Lib.hid (can_none (n := its.length) hM hS hN (Nat.le_refl W.heap.size) (W.alloc (.map #[] 0)) hb1 x hg hx (IMap.made W))
  clear hM hS hN hnd hwhy hb1 hg hx
  go_enter Tryz.func13, Tryz.ntmps13
  go_wp2_with (go_at_call 33; (with_reducible refine cC.out.mono ?_); rintro r w3 ⟨rfl, hb3⟩; replace hb3 := Lib.hid hb3)
  go_ret
  exact ⟨rfl, hb3.out⟩
/-- Can it be made? (None can't.) -/
def canO (ls : List Tm) (o : Option Tm) : Prop := ∃ t, o = some t ∧ der ls t
theorem mCan_any {w0 W : World} {g m b : Nat} {L : List Tm} {known sent : List (Option Tm)} {its : List It} {ls : List Tm} (h : MindF w0 g W m b L known sent its ls) (hS : St w0 g W L) (x : Int) (o : Option Tm) (hg : get L x = o) (hx : i64 x) :
    Calls Tryz.prog 13 #[.pointer (some ⟨m, 0, none⟩), .int .i64 x] W fun r w' => ∃ q : Bool, r = .returned (.bool q) ∧ (q = true ↔ canO ls o) ∧ Below W.heap.size W w' := by
  subst hg
  cases hg : get L x with
  | none => exact (mCan_none h hS x hg hx).mono fun r w' ⟨h1, h2⟩ => ⟨false, h1, ⟨fun h => (by cases h), fun ⟨t, h, _⟩ => (by cases h)⟩, h2⟩
  | some t => exact (mCan_some h hS x t hg).mono fun r w' ⟨q, h1, h2, h3⟩ => ⟨q, h1, h2.trans ⟨fun h => ⟨t, rfl, h⟩, fun ⟨u, h, hd⟩ => (by obtain rfl := Option.some.inj h; exact hd)⟩, h3⟩
theorem mCan_nil (x : Int) (W : World) : Calls Tryz.prog 13 #[.pointer none, .int .i64 x] W fun r w' => r = .returned (.bool false) ∧ W = w' := by
  go_enter Tryz.func13, Tryz.ntmps13
  go_wp2
  go_ret
  exact ⟨rfl, rfl⟩
set_option maxRecDepth 100000 in
set_option maxHeartbeats 4000000 in
theorem mHas_some {w0 W : World} {g m b : Nat} {L : List Tm} {known sent : List (Option Tm)} {its : List It} {ls : List Tm} (h : MindF w0 g W m b L known sent its ls) (hL : L.Nodup) (hl : L.length ≤ 100) (x : Int) (t : Tm) (hg : get L x = some t) :
    Calls Tryz.prog 14 #[.pointer (some ⟨m, 0, none⟩), .int .i64 x] W fun r w' => ∃ q : Bool, r = .returned (.bool q) ∧ (q = true ↔ t ∈ ls) ∧ W = w' := by
  have hfull := h.full
  obtain ⟨⟨⟨A, c, hM⟩, hN, hnd, hwhy⟩, -⟩ := h
  obtain ⟨c0, c1, c2⟩ := hM.c0
  have cH := Lib.hid (mhas_any hM x (i64_get hg hl) its.length)
  have hh := hN.has hL hg its.length
  rw [hfull] at hh
  generalize hasM (itsT its) x its.length = q at cH hh
  replace hh := Lib.hid hh
  clear hM hN hnd hwhy hg hfull
  go_enter Tryz.func14, Tryz.ntmps14
  go_wp2_with (go_at_call 34; refine cH.out.mono ?_; rintro r w2 ⟨rfl, rfl⟩)
  go_ret
  exact ⟨q, rfl, hh.out, rfl⟩
theorem mHas_nil (x : Int) (W : World) : Calls Tryz.prog 14 #[.pointer none, .int .i64 x] W fun r w' => r = .returned (.bool false) ∧ W = w' := by
  go_enter Tryz.func14, Tryz.ntmps14
  go_wp2
  go_ret
  exact ⟨rfl, rfl⟩
theorem mLen_any {w0 W : World} {g m b : Nat} {L : List Tm} {known sent : List (Option Tm)} {its : List It} {ls : List Tm} (h : MindF w0 g W m b L known sent its ls) :
    Calls Tryz.prog 21 #[.pointer (some ⟨m, 0, none⟩)] W fun r w' => r = .returned (.int .i64 ls.length) ∧ W = w' := by
  obtain ⟨A, c, c1, _⟩ := h.mi.len
  clear h
  go_enter Tryz.func21, Tryz.ntmps21
  go_wp2
  go_ret
  exact ⟨rfl, rfl⟩
theorem mLen_nil (W : World) : Calls Tryz.prog 21 #[.pointer none] W fun r w' => r = .returned (.int .i64 0) ∧ W = w' := by
  go_enter Tryz.func21, Tryz.ntmps21
  go_wp2
  go_ret
  exact ⟨rfl, rfl⟩
end

section
open Go.RowKit Go.Maps

def n0T : Tm := .mk 2 0 0 [] []
def n1T : Tm := .mk 2 1 0 [] []
def gL : List UInt8 := [103]
theorem n0T_ok : n0T.ok ∧ n0T.kind = 2 ∧ nonceT 0 0 = some n0T := by
  have h : nonceT 0 0 = some n0T := by
    unfold nonceT
    rw [if_pos ⟨by unfold numOk; omega, by unfold numOk; omega⟩]
    simp [mkO, alls, own, lens, n0T]
  exact ⟨(nonceT_kind h).1, rfl, h⟩
theorem n1T_ok : n1T.ok ∧ n1T.kind = 2 ∧ nonceT 1 0 = some n1T := by
  have h : nonceT 1 0 = some n1T := by
    unfold nonceT
    rw [if_pos ⟨by unfold numOk; omega, by unfold numOk; omega⟩]
    simp [mkO, alls, own, lens, n1T]
  exact ⟨(nonceT_kind h).1, rfl, h⟩
theorem base_eq33 : baseT gL = some (shT gL []) := shT_eq (g := gL) (by decide) (by decide) (xs := []) (by simp) (by simp)
theorem exp1_eq33 : expT (some (shT gL [])) (some n1T) = some (shT gL [n1T]) := by
  have h := shT_eq (g := gL) (by decide) (by decide) (xs := [n1T]) (by simpa using ⟨n1T_ok.1, n1T_ok.2.1⟩) (by simp)
  have e : exps (baseT gL) ([n1T].map some) = expT (baseT gL) (some n1T) := rfl
  rw [e, base_eq33] at h
  exact h
theorem exp2_eq33 {x : Tm} (hx : x.ok ∧ x.kind = 2) : expT (some (shT gL [n1T])) (some x) = some (shT gL [n1T, x]) := by
  have h := shT_eq (g := gL) (by decide) (by decide) (xs := [n1T, x]) (by simpa using ⟨⟨n1T_ok.1, n1T_ok.2.1⟩, hx⟩) (by simp)
  have e : exps (baseT gL) ([n1T, x].map some) = expT (expT (baseT gL) (some n1T)) (some x) := rfl
  rw [e, base_eq33, exp1_eq33] at h
  exact h
theorem sh_n1 : shT gL [n1T] = .mk 5 0 0 gL [n1T] := rfl
theorem sh_n10 : shT gL [n1T, n0T] = .mk 5 0 0 gL [n0T, n1T] := by simp [shT, insAll, ins, nle, n0T, n1T, Tm.a, Tm.b]
theorem sh_n11 : shT gL [n1T, n1T] = .mk 5 0 0 gL [n1T, n1T] := by simp [shT, insAll, ins, nle, n1T, Tm.a, Tm.b]
theorem n01 : n0T ≠ n1T := by unfold n0T n1T; intro h; injection h with _ h _; omega
theorem nder_n1 : ¬ nder [shT gL [n1T]] n1T := by
  rw [sh_n1]
  rintro (h | h)
  · rw [List.mem_singleton] at h
    unfold n1T at h
    injection h with h
    omega
  · exact absurd h.2 (by decide)
theorem der33a : der [shT gL [n1T]] (shT gL [n1T, n0T]) := by
  rw [der_share (by rw [sh_n10]; rfl)]
  refine .inr (.inr ⟨shT gL [n1T], by simp, rfl, by rw [sh_n10]; rfl, ?_⟩)
  have e1 : (shT gL [n1T]).args = [n1T] := rfl
  have e2 : (shT gL [n1T, n0T]).args = [n0T, n1T] := by rw [sh_n10]; rfl
  rw [e1, e2]
  refine ⟨fun x => by simp only [cnt_cons, cnt_nil]; omega, fun x hx => ?_⟩
  simp only [cnt_cons, cnt_nil] at hx
  by_cases h : n0T = x
  · subst h; exact .inr ⟨rfl, rfl⟩
  · rw [if_neg h] at hx; omega
theorem der33b : ¬ der [shT gL [n1T]] (shT gL [n1T, n1T]) := by
  rw [der_share (by rw [sh_n11]; rfl)]
  have e2 : (shT gL [n1T, n1T]).args = [n1T, n1T] := by rw [sh_n11]; rfl
  rw [e2]
  rintro (h | h | ⟨y, hy, _, _, h⟩)
  · rw [List.mem_singleton, sh_n11, sh_n1] at h
    injection h with _ _ _ _ h
    injection h with _ h
    cases h
  · exact nder_n1 (h.2 n1T (by simp [cnt_cons, cnt_nil]))
  · rw [List.mem_singleton] at hy
    subst hy
    have e1 : (shT gL [n1T]).args = [n1T] := rfl
    rw [e1] at h
    exact nder_n1 (h.2 n1T (by simp [cnt_cons, cnt_nil]))
theorem der33c : ¬ der [shT gL [n1T]] n1T := by
  rw [der_nonce rfl]
  exact nder_n1
theorem mind33 {ls : List Tm} (h : Mind (haveL [] [some (shT gL [n1T])]) ls) : ls = [shT gL [n1T]] := by
  have hH : haveL [] [some (shT gL [n1T])] = [shT gL [n1T]] := rfl
  rw [hH] at h
  have hd : ∀ t, Hd [shT gL [n1T]] t → t = shT gL [n1T] := fun t ht => by
    induction ht with
    | base h => exact List.mem_singleton.1 h
    | part _ hk _ ih => rw [ih, sh_n1] at hk; exact absurd hk (by decide)
    | opn S _ hk _ _ _ ih _ => rw [ih, sh_n1] at hk; exact absurd hk (by decide)
  have hin := h.all _ (List.mem_singleton.2 rfl)
  match ls, h, hin with
  | [x], h, hin => rw [hd x (h.had x (by simp))]
  | x :: y :: r, h, hin =>
    have hx := hd x (h.had x (by simp))
    have hy := hd y (h.had y (by simp))
    have := h.once
    rw [hx, hy] at this
    simp at this
set_option maxRecDepth 100000 in
set_option maxHeartbeats 4000000 in
theorem awake33 (w : World) : Calls Tryz.prog 8 #[] w fun r w' => r = .returned (.bool true) ∧ Below w.heap.size w w' := by
  have cN := Lib.hid (tnew_any w)
  have b0 := Lib.hid base_eq33
  have b1 := Lib.hid exp1_eq33
  have b2 := Lib.hid (exp2_eq33 ⟨n0T_ok.1, n0T_ok.2.1⟩)
  have b3 := Lib.hid (exp2_eq33 ⟨n1T_ok.1, n1T_ok.2.1⟩)
  have m0 := Lib.hid n0T_ok.2.2
  have m1 := Lib.hid n1T_ok.2.2
  have hd := Lib.hid (And.intro der33a (And.intro der33b der33c))
  have hmi := Lib.hid (show ∀ ls, Mind (haveL [] [some (shT gL [n1T])]) ls → ls = [shT gL [n1T]] from fun ls h => mind33 h)
  go_enter Tryz.func8, Tryz.ntmps8
  go_upto_region 4 with (first
    | (go_at_call 9; refine cN.out.mono ?_; rintro r w1 ⟨A, rfl, hN, hA, hb⟩
       have hS0 := St.start hN hA hb
       have c1 := hS0.nonce (by decide) 1 0
       rw [m1.out] at c1
       have c1h := Lib.hid c1
       clear hN hA hb cN hS0 c1
       generalize A.g = g at *)
    | (go_at_call 26; (with_reducible refine c1h.out.mono ?_); rintro r w2 ⟨L1, x, rfl, hS1, hG, hM, -, -⟩
       have hl1 := hG.len.2
       have c2 := hS1.base (by simp at hl1; omega) gL (by decide)
       rw [b0.out] at c2
       have c2h := Lib.hid c2
       have hK1 := Lib.hid hM
       have hl1 := Lib.hid (show L1.length ≤ 1 by simpa using hl1)
       clear hS1 hG hM c2)
    | (go_at_call 28; refine c2h.out.mono ?_; rintro r w3 ⟨L2, z, rfl, hS2, hG, hM, -, -⟩
       have hl2 : L2.length ≤ 2 := by have := hG.len.2; have := hl1.out; omega
       have c3 := hS2.exp (by omega) z x
       have hx2 : Nm L2 x (some n1T) := by obtain ⟨e, rfl⟩ := hG.pre; exact hK1.out.app
       rw [hM.1, hx2.1, b1.out] at c3
       have c3h := Lib.hid c3
       have hK2 := Lib.hid hx2
       have hl2 := Lib.hid hl2
       clear hS2 hG hM c3 hx2 hK1 hl1)
    | (go_at_call 27; (with_reducible refine c3h.out.mono ?_); rintro r w4 ⟨L3, s, rfl, hS3, hG, hM, -, -⟩
       have hl3 := Lib.hid (show L3.length ≤ 3 by have := hG.len.2; have := hl2.out; omega)
       have hK3 := Lib.hid (show Nm L3 x (some n1T) by obtain ⟨e, rfl⟩ := hG.pre; exact hK2.out.app)
       have hS5 := hS3.keep (below_new w4 (.cells #[.int .i64 s] 33))
       have cM := Lib.hid (mnew_any hS5 (kA := none) (sA := some ⟨w4.heap.size, 0, none⟩) (kn := 0) (kc := 0) (sn := 1) (sc := 1) (lk := []) (lq := [s]) (known := []) (sent := [some (shT gL [n1T])]) Rws.nil_ (ints_new w4 [s] _) (NmL.nil_ _) ((NmL.nil_ _).snoc hM) (by decide) (by decide))
       have hs3 := Lib.hid hM
       have hS5 := Lib.hid hS5
       clear hS3 hG hM hl2 hK2))
  clear c1h c2h c3h m1 b0 b1
  go_upto_region 5 with (go_at_call 12; (with_reducible refine cM.out.mono ?_); rintro r w5 hNew
                         obtain ⟨m, b, its, ls, rfl, hF, hMi, hS, hb5⟩ := hNew.fix hS5.out
                         obtain rfl := hmi.out _ hMi
                         have hF := Lib.hid hF
                         have cH := Lib.hid (Calls.mono (mHas_some hF.out hS.good.once hS.few s _ hs3.out.1) fun (r : Ending) (W' : World) ⟨q, h1, h2, h3⟩ => (show r = Ending.returned (.bool true) ∧ w5 = W' from ⟨by rw [h1, h2.2 (by simp)], h3⟩))
                         have cN0 := hS.nonce (by have := hl3.out; omega) 0 0
                         rw [m0.out] at cN0
                         have cN0 := Lib.hid cN0
                         have cLn := Lib.hid (fun W (h : Below w5.heap.size w5 W) => mLen_any (hF.out.keep h))
                         clear hNew hMi hb5 hS)
  clear cM hS5 m0 hmi cLn
  go_wp2_with (first
    | (go_at_call 14; (with_reducible refine cH.out.mono ?_); rintro r w6 ⟨rfl, rfl⟩)
    | (go_at_call 26; (with_reducible refine cN0.out.mono ?_); rintro r w7 ⟨L4, y, rfl, hS4, hG, hM, hY, -, hFr⟩
       have hF4 := Lib.hid (hF.out.grow_ hS4 hG hY hFr)
       have hl4 : L4.length ≤ 4 := by have := hG.len.2; have := hl3.out; omega
       obtain ⟨e, rfl⟩ := hG.pre
       have hs4 := Lib.hid (hs3.out.app (r := e))
       have hx4 := Lib.hid (hK3.out.app (r := e))
       have cE := hS4.exp (by omega) s y
       rw [hM.1, (hs3.out.app (r := e)).1, b2.out] at cE
       have cE := Lib.hid cE
       have hl4 := Lib.hid hl4
       generalize L3 ++ e = L4 at *
       clear hS4 hG hM hY hFr cN0 hF hl3 hs3 hK3)
    | (go_at_call 27; (with_reducible refine cE.out.mono ?_); rintro r w8 ⟨L5, u1, rfl, hS5, hG, hM, hY, -, hFr⟩
       have hF5 := Lib.hid (hF4.out.grow_ hS5 hG hY hFr)
       have hl5 := Lib.hid (show L5.length ≤ 5 by have := hG.len.2; have := hl4.out; omega)
       obtain ⟨e, rfl⟩ := hG.pre
       have hs5 := Lib.hid (hs4.out.app (r := e))
       have hx5 := Lib.hid (hx4.out.app (r := e))
       have cC1 := Lib.hid (mCan_true hF5.out hS5 u1 _ hM.1 hd.out.1)
       have hS5 := Lib.hid hS5
       generalize L4 ++ e = L5 at *
       clear hG hM hY hFr cE hF4 hl4 hs4 hx4)
    | (go_at_call 13; (with_reducible refine cC1.out.mono ?_); rintro r w9 ⟨rfl, hb9⟩
       have hF6 := Lib.hid (hF5.out.keep hb9)
       have hS6 := hS5.out.keep hb9
       have cE2 := hS6.exp (by have := hl5.out; omega) s x
       rw [hs5.out.1, hx5.out.1, b3.out] at cE2
       have cE2 := Lib.hid cE2
       clear cC1 hb9 hF5 hS5 hS6)
    | (go_at_call 27; (with_reducible refine cE2.out.mono ?_); rintro r w10 ⟨L7, u2, rfl, hS7, hG, hM, hY, -, hFr⟩
       have hF7 := Lib.hid (hF6.out.grow_ hS7 hG hY hFr)
       obtain ⟨e, rfl⟩ := hG.pre
       have hx7 := Lib.hid (hx5.out.app (r := e))
       have cC2 := Lib.hid (mCan_false hF7.out hS7 u2 _ hM.1 hd.out.2.1)
       have hS7 := Lib.hid hS7
       generalize L5 ++ e = L7 at *
       clear hG hM hY hFr cE2 hF6 hl5 hs5 hx5)
    | (go_at_call 13; (with_reducible refine cC2.out.mono ?_); rintro r w11 ⟨rfl, hb11⟩
       have hF8 := Lib.hid (hF7.out.keep hb11)
       have hS8 := hS7.out.keep hb11
       have cC3 := Lib.hid (mCan_false hF8.out hS8 x _ hx7.out.1 hd.out.2.2)
       have hS8 := Lib.hid hS8
       clear cC2 hb11 hF7 hS7)
    | (go_at_call 13; (with_reducible refine cC3.out.mono ?_); rintro r w12 ⟨rfl, hb12⟩
       have cL := Lib.hid (mLen_any (hF8.out.keep hb12))
       have hBz := Lib.hid (hS8.out.below.trans (hb12.mono hS8.out.below.size))
       clear cC3 hb12 hF8 hS8)
    | (go_at_call 21; (with_reducible refine cL.out.mono ?_); rintro r w13 ⟨rfl, rfl⟩))
  go_ret
  exact ⟨rfl, hBz.out⟩
end

section
open Go.RowKit Go.Maps

def few33B (ms : List Mk) (c0 c1 c2 : Int) : Bool := fewB ms 20 && decide (0 ≤ c0) && decide (c0 ≤ c1) && decide (c1 ≤ c2) && decide (c2 ≤ (ms.length : Int))
theorem few33_iff {ms : List Mk} {c0 c1 c2 : Int} : few33B ms c0 c1 c2 = true ↔ ms.length ≤ 20 ∧ (∀ x ∈ ms, x.s.length ≤ 200) ∧ ∃ a b c : Nat, c0 = a ∧ c1 = b ∧ c2 = c ∧ a ≤ b ∧ b ≤ c ∧ c ≤ ms.length := by
  unfold few33B
  simp only [Bool.and_eq_true, decide_eq_true_eq, fewB_iff]
  constructor
  · rintro ⟨⟨⟨⟨⟨h1, h2⟩, h3⟩, h4⟩, h5⟩, h6⟩
    exact ⟨by omega, h2, c0.toNat, c1.toNat, c2.toNat, by omega, by omega, by omega, by omega, by omega, by omega⟩
  · rintro ⟨h1, h2, a, b, c, rfl, rfl, rfl, h3, h4, h5⟩
    exact ⟨⟨⟨⟨⟨by omega, h2⟩, by omega⟩, by omega⟩, by omega⟩, by omega⟩
def cutC (c0 c1 c2 : Int) : Array Value := #[.int .i64 c0, .int .i64 c1, .int .i64 c2]
set_option maxRecDepth 100000 in
set_option maxHeartbeats 4000000 in
theorem few33_any (ms : List Mk) (A : Option Addr) (n c : Nat) (c0 c1 c2 : Int) (w : World) (hn : n ≤ 9223372036854775807) (H : Rws w 5 A n (ms.map Mk.row)) :
    Calls Tryz.prog 7 #[.slice A n c, .agg (cutC c0 c1 c2)] w fun r w' => r = .returned (.bool (few33B ms c0 c1 c2)) ∧ Below w.heap.size w w' := by
  have hl : ms.length = n := by have := H.1; simpa using this
  have hbx := below_new w (.cells (cutC c0 c1 c2) 23)
  have hrx := heap_new w (.cells (cutC c0 c1 c2) 23)
  obtain ⟨W1, hW1⟩ : ∃ W1, W1 = w.alloc (.cells (cutC c0 c1 c2) 23) := ⟨_, rfl⟩
  rw [← hW1] at hbx hrx
  have d0 : W1.cell? ⟨w.heap.size, 0, none⟩ = some (.int .i64 c0) := cell_of_row W1 w.heap.size 0 _ _ _ hrx
  have d1 : W1.cell? ⟨w.heap.size, 1, none⟩ = some (.int .i64 c1) := cell_of_row W1 w.heap.size 1 _ _ _ hrx
  have d2 : W1.cell? ⟨w.heap.size, 2, none⟩ = some (.int .i64 c2) := cell_of_row W1 w.heap.size 2 _ _ _ hrx
  have cF := few_any ms A n c 20 W1 hn (H.keep hbx)
  unfold few33B
  rw [hl]
  generalize fewB ms 20 = q at *
  replace cF := Lib.hid cF
  replace hbx := Lib.hid hbx
  clear H hrx hl
  cases q with
  | false =>
    go_enter Tryz.func7, Tryz.ntmps7
    go_upto_region 1 with fail
    rw [← hW1]
    clear hW1
    go_wp2_with (go_at_call 25; (with_reducible refine cF.out.mono ?_); rintro r w2 ⟨rfl, rfl⟩)
    go_ret
    exact ⟨rfl, hbx.out⟩
  | true =>
    by_cases h0 : 0 ≤ c0
    · by_cases h1 : c0 ≤ c1
      · by_cases h2 : c1 ≤ c2
        · by_cases h3 : c2 ≤ (n : Int)
          · have hres := Lib.hid (show (true && decide (0 ≤ c0) && decide (c0 ≤ c1) && decide (c1 ≤ c2) && decide (c2 ≤ (n : Int))) = true by simp [h0, h1, h2, h3])
            go_enter Tryz.func7, Tryz.ntmps7
            go_upto_region 1 with fail
            rw [← hW1]
            clear hW1
            go_wp2_with (go_at_call 25; (with_reducible refine cF.out.mono ?_); rintro r w2 ⟨rfl, rfl⟩)
            go_ret
            exact ⟨ret_bool (by first | exact hres.out.symm | (simp_all; done) | (simp_all; omega)), hbx.out⟩
          · have hres := Lib.hid (show (true && decide (0 ≤ c0) && decide (c0 ≤ c1) && decide (c1 ≤ c2) && decide (c2 ≤ (n : Int))) = false by simp [h3])
            go_enter Tryz.func7, Tryz.ntmps7
            go_upto_region 1 with fail
            rw [← hW1]
            clear hW1
            go_wp2_with (go_at_call 25; (with_reducible refine cF.out.mono ?_); rintro r w2 ⟨rfl, rfl⟩)
            go_ret
            exact ⟨ret_bool (by first | exact hres.out.symm | (simp_all; done) | (simp_all; omega)), hbx.out⟩
        · have hres := Lib.hid (show (true && decide (0 ≤ c0) && decide (c0 ≤ c1) && decide (c1 ≤ c2) && decide (c2 ≤ (n : Int))) = false by simp [h2])
          go_enter Tryz.func7, Tryz.ntmps7
          go_upto_region 1 with fail
          rw [← hW1]
          clear hW1
          go_wp2_with (go_at_call 25; (with_reducible refine cF.out.mono ?_); rintro r w2 ⟨rfl, rfl⟩)
          go_ret
          exact ⟨ret_bool (by first | exact hres.out.symm | (simp_all; done) | (simp_all; omega)), hbx.out⟩
      · have hres := Lib.hid (show (true && decide (0 ≤ c0) && decide (c0 ≤ c1) && decide (c1 ≤ c2) && decide (c2 ≤ (n : Int))) = false by simp [h1])
        go_enter Tryz.func7, Tryz.ntmps7
        go_upto_region 1 with fail
        rw [← hW1]
        clear hW1
        go_wp2_with (go_at_call 25; (with_reducible refine cF.out.mono ?_); rintro r w2 ⟨rfl, rfl⟩)
        go_ret
        exact ⟨ret_bool (by first | exact hres.out.symm | (simp_all; done) | (simp_all; omega)), hbx.out⟩
    · have hres := Lib.hid (show (true && decide (0 ≤ c0) && decide (c0 ≤ c1) && decide (c1 ≤ c2) && decide (c2 ≤ (n : Int))) = false by simp [h0])
      go_enter Tryz.func7, Tryz.ntmps7
      go_upto_region 1 with fail
      rw [← hW1]
      clear hW1
      go_wp2_with (go_at_call 25; (with_reducible refine cF.out.mono ?_); rintro r w2 ⟨rfl, rfl⟩)
      go_ret
      exact ⟨ret_bool (by first | exact hres.out.symm | (simp_all; done) | (simp_all; omega)), hbx.out⟩
/-- Where what lies behind the first K begins. -/
def behind3 (A : Option Addr) (K c : Nat) : Option Addr := if c = K then A else A.map (·.add (K * 1))
theorem slLH_run3 (t : TypeId) (ht : Tryz.prog.underlying t = some (.slice (Tryz.prog.elem t))) (hz : ∀ w, (sizeOf (Tryz.prog.elem t)).run Tryz.prog w = .ok 1 w) (A : Option Addr) (n c lo hi : Nat) (h1 : lo ≤ hi) (h2 : hi ≤ c) (W : World) :
    (Instr.sliceAt t (.slice A n c) (some (.int .i64 (lo : Int))) (some (.int .i64 (hi : Int))) none).run Tryz.prog W = .ok (.slice (behind3 A lo c) (hi - lo) (c - lo)) W := by
  rw [run_sliceAt_slice (h := ht), run_slice_lh (ht := ht) (h0 := by omega) (h1 := by omega) (h2 := by omega), hz]
  simp only [Result.andThen, sliced, Int.toNat_natCast, behind3]
theorem u_ids3 : Tryz.prog.underlying 28 = some (.slice (Tryz.prog.elem 28)) := by kernel_rfl
theorem z_ids3 : ∀ w, (sizeOf (Tryz.prog.elem 28)).run Tryz.prog w = .ok 1 w := by intro w; kernel_rfl
theorem u_strs3 : Tryz.prog.underlying 29 = some (.slice (Tryz.prog.elem 29)) := by kernel_rfl
theorem z_strs3 : ∀ w, (sizeOf (Tryz.prog.elem 29)).run Tryz.prog w = .ok 1 w := by intro w; kernel_rfl
/-- The elements from lo on, up to hi. -/
def subL {α : Type} (lo hi : Nat) (l : List α) : List α := (l.drop lo).take (hi - lo)
theorem subL_map {α β : Type} (f : α → β) (lo hi : Nat) (l : List α) : (subL lo hi l).map f = subL lo hi (l.map f) := by unfold subL; rw [List.map_take, List.map_drop]
theorem Rws.sub3 {w : World} {A : Option Addr} {n c lo hi : Nat} {zs : List (List Value)} (h : Rws w 1 A n zs) (hc : n ≤ c) (h2 : hi ≤ n) : Rws w 1 (behind3 A lo c) (hi - lo) (subL lo hi zs) := by
  refine ⟨by unfold subL; rw [List.length_take, List.length_drop, h.1]; omega, fun z hz => h.2.1 z (List.mem_of_mem_drop (List.mem_of_mem_take hz)), fun hp => ?_⟩
  obtain ⟨b, off, e, hlt, hcell⟩ := h.2.2 (by omega)
  refine ⟨b, off + lo, ?_, hlt, fun j z hz => ?_⟩
  · unfold behind3
    rw [if_neg (by omega), e]
    simp [Addr.add]
  · unfold subL at hz
    rw [List.getElem?_take] at hz
    split at hz
    · rw [List.getElem?_drop] at hz
      have := hcell (lo + j) z hz
      rwa [show off + (lo + j) * 1 = off + lo + j * 1 by omega] at this
    · cases hz
theorem NmL.sub3 {L : List Tm} {l : List Int} {os : List (Option Tm)} (h : NmL L l os) (lo hi : Nat) : NmL L (subL lo hi l) (subL lo hi os) := by
  refine ⟨by unfold subL; rw [List.length_take, List.length_take, List.length_drop, List.length_drop, h.len], fun i x o h1 h2 => ?_⟩
  unfold subL at h1 h2
  rw [List.getElem?_take] at h1 h2
  split at h1
  · rename_i hi'
    rw [if_pos hi'] at h2
    rw [List.getElem?_drop] at h1 h2
    exact h.nm _ x o h1 h2
  · cases h1
theorem IdsT.sub3 {w : World} {A : Option Addr} {n c lo hi : Nat} {l : List Int} (h : IdsT w A n l) (hc : n ≤ c) (h2 : hi ≤ n) : IdsT w (behind3 A lo c) (hi - lo) (subL lo hi l) :=
  ⟨by have := Rws.sub3 (lo := lo) (hi := hi) h.ints hc h2; unfold Ints; rw [subL_map]; exact this, fun hp => by
    obtain ⟨b, off, cur, fr, e, hb⟩ := h.typ (by omega)
    refine ⟨b, off + lo, cur, fr, ?_, hb⟩
    unfold behind3
    rw [if_neg (by omega), e]
    simp [Addr.add]⟩
theorem OwnR.cap3 {w : World} {base k : Nat} {E : TypeId} {A : Option Addr} {n c : Nat} {zs : List (List Value)} (h : OwnR w base k E (.slice A n c) zs) : n ≤ c := by
  rcases h.1.2 with ⟨e, _⟩ | ⟨g, cap, cur, e, _, _, hc, _⟩
  · injection e with _ e1 e2
    rw [e1, e2]
    exact Nat.le_refl _
  · injection e with _ e1 e2
    rw [e2, e1]
    exact hc
/-- A part of the numbers that were made. -/
theorem Md.sub3 {w0 : World} {g q B : Nat} {W : World} {AI AT : Option Addr} {n cI cT : Nat} {l : List Int} {L : List Tm} {os : List (Option Tm)} (h : Md w0 g q B W AI AT n cI cT l L os) {lo hi : Nat} (h2 : hi ≤ n) :
    IdsT W (behind3 AI lo cI) (hi - lo) (subL lo hi l) ∧ n ≤ cI := by
  have hc := OwnR.cap3 h.ids
  obtain ⟨A, c, e, hId⟩ := IdsT.of_own h.ids
  rw [h.ll] at e hId
  injection e with e1 _ _
  subst e1
  exact ⟨hId.sub3 hc h2, hc⟩
theorem Md.subT3 {w0 : World} {g q B : Nat} {W : World} {AI AT : Option Addr} {n cI cT : Nat} {l : List Int} {L : List Tm} {os : List (Option Tm)} (h : Md w0 g q B W AI AT n cI cT l L os) {lo hi : Nat} (h2 : hi ≤ n) :
    Strs W (behind3 AT lo cT) (hi - lo) (subL lo hi (os.map fun o => bs (encO o))) ∧ n ≤ cT := by
  have hc := OwnR.cap3 h.txt
  refine ⟨?_, hc⟩
  have := Rws.sub3 (lo := lo) (hi := hi) h.strs hc h2
  unfold Strs
  rw [subL_map]
  exact this
end

section
open Go.RowKit Go.Maps Go.ChangeShapes Go.WideShapes

set_option maxRecDepth 100000 in
set_option maxHeartbeats 2000000 in
theorem few14_any (L : List Mk) (A : Option Addr) (n c : Nat) (w : World) (hn : n ≤ 9223372036854775807) (H : Rws w 5 A n (L.map Mk.row)) :
    Calls Tryz.prog 15 #[.slice A n c] w fun r w' => r = .returned (.bool (fewB L 70)) ∧ w = w' := by
  have hl : L.length = n := by have := H.1; simpa using this
  by_cases hm : (70 : Int) < (n : Int)
  · have e := Lib.hid (show fewB L 70 = false by
      rw [Bool.eq_false_iff]; intro h; have := (fewB_iff.1 h).1; omega)
    clear hl H
    go_enter Tryz.func15, Tryz.ntmps15
    go_wp2_with fail
    go_ret
    exact ⟨ret_bool e.out.symm, rfl⟩
  have h0 : Hid (∀ x ∈ L.take 0, x.s.length ≤ 200) := by intro x hx; simp at hx
  have hlh := Lib.hid hl
  have Hh := Lib.hid H
  clear hl H
  go_enter Tryz.func15, Tryz.ntmps15
  go_wp2_with fail
  go_loopw [3] (fun iv wr => ∃ j : Nat, j ≤ n ∧ iv = .int .i64 j ∧ Hid (∀ x ∈ L.take j, x.s.length ≤ 200) ∧ wr = w) (fun iv _ => n - (intOf iv).toNat)
  case atStart => exact ⟨0, by omega, rfl, h0, rfl⟩
  case round =>
    clear h0
    obtain ⟨j, hj, rfl, hp, rfl⟩ := hrel
    by_cases hlt : j < n
    · obtain ⟨b, off, z, rfl, hb, hz, _, hr⟩ := Hh.out.row hlt
      rw [List.getElem?_map] at hz
      obtain ⟨x, hx⟩ : ∃ x, L[j]? = some x := ⟨L[j]'(by have := hlh.out; omega), List.getElem?_eq_getElem (by have := hlh.out; omega)⟩
      rw [hx] at hz
      have hz : x.row = z := Option.some.inj hz
      subst hz
      have hc := hr 4 _ rfl
      have hzs := bs_size x.s
      have htk := take_succ_of hx
      have hmem := List.mem_of_getElem? hx
      generalize bs x.s = y at *
      by_cases h2 : 200 < x.s.length
      · have e := Lib.hid (show fewB L 70 = false by
          rw [Bool.eq_false_iff]; intro h; have := (fewB_iff.1 h).2 x hmem; omega)
        have hy : 200 < y.size := by omega
        clear hr hx htk hmem hzs
        go_wp2_with fail
        go_ret
        exact ⟨ret_bool e.out.symm, rfl⟩
      · have hy : ¬ 200 < y.size := by omega
        have hnext : Hid (∀ z ∈ L.take (j + 1), z.s.length ≤ 200) := by
          intro z hz
          rw [htk] at hz
          rcases List.mem_append.1 hz with hz | hz
          · exact hp.out z hz
          · obtain rfl := List.mem_singleton.1 hz; omega
        clear hr hx htk hmem hzs
        go_wp2_with fail
        go_roundw
        case rel => exact ⟨j + 1, by omega, by go_num, hnext, (by first | rfl | trivial)⟩
        case measure => simp [intOf]; omega
    · have e := Lib.hid (show fewB L 70 = true by
        rw [fewB_iff]
        refine ⟨by have := hlh.out; omega, ?_⟩
        have := hp.out
        rwa [List.take_of_length_le (by have := hlh.out; omega)] at this)
      clear hp
      go_wp2_with fail
      go_ret
      exact ⟨ret_bool e.out.symm, rfl⟩
theorem op_flat : flatDesc Tryz.prog 3 79 = some mkDs := by kernel_rfl
set_option maxRecDepth 100000 in
theorem open_ops {H : Type} {enc : TypeId × Value → H} {w : World} {base : Nat} {spare : Nat → Bool} {held : Bool} {r : Reach} {b0 : Nat} {v : Value} {d : DataW H} {ps : List MemPlace}
    (hv : Value.okWide Tryz.prog w r b0 40 v) (h : DataW.Trod enc Tryz.prog w base spare held 40 v d ps) :
    ∃ (A : Option Addr) (n c : Nat) (L : List Mk), v = .slice A n c ∧ n ≤ 9223372036854775807 ∧ Rws w 5 A n (L.map Mk.row) ∧ n ≤ c ∧ c ≤ 9223372036854775807 := by
  obtain ⟨a, len, cap, rfl⟩ := okWide_slice Tryz.underlying40 hv
  obtain ⟨fuel, hf⟩ := h
  obtain ⟨A, n, c, zs, hcs, hl, hm, hr, hok⟩ := open_rows Tryz.underlying40 op_flat (by kernel_rfl) (by decide) hf
  obtain ⟨L, rfl⟩ := mks_of_rows zs hok
  have : Value.slice a len cap = .slice A n c := by simpa [Value.cells] using hcs
  unfold maxLen at hm
  exact ⟨A, n, c, L, this, by omega, hr, hl, by omega⟩
end

section
open Go.RowKit Go.Maps

/-- What All leaves: each that it makes can be made. -/
def AllS (w0 : World) (g : Nat) (L ls : List Tm) (W0 : World) (r : Ending) (W' : World) : Prop :=
  ∃ (mA : Option Addr) (mn mc : Nat) (lm : List Int) (L' : List Tm), r = .returned (.slice mA mn mc) ∧ St w0 g W' L' ∧ (∃ e, L' = L ++ e) ∧ mn ≤ 1000 ∧ Ints W' mA mn lm ∧ (∀ (i : Nat) (x : Int), lm[i]? = some x → x = -1 ∨ ∃ t, get L' x = some t ∧ der ls t) ∧ Stay W0 W' ∧ MapStay g W0 W' ∧ W0.heap.size ≤ W'.heap.size
theorem allS_any {w0 W0 : World} {g : Nat} {L ls : List Tm} {kA sA B : Option Addr} {kn kc sn sc m d : Nat} {lk lq : List Int} {known sent : List (Option Tm)} (ops : List Mk) (hS : St w0 g W0 L) (hL : L.length ≤ 20) (hm : m ≤ 9223372036854775807) (hs : ∀ x ∈ ops, x.s.length ≤ 200) (hM : Rws w0 5 B m (ops.map Mk.row))
    (hk : IdsT W0 kA kn lk) (hsn : IdsT W0 sA sn lq) (hkn : kn ≤ 1000) (hsn2 : sn ≤ 1000) (nk : NmL L lk known) (ns : NmL L lq sent) (hMi : Mind (haveL known sent) ls) :
    Calls Tryz.prog 16 #[.pointer (some ⟨g, 0, none⟩), .slice kA kn kc, .slice sA sn sc, .slice B m d] W0 (AllS w0 g L ls W0) := by
  by_cases h : m ≤ 64
  · have hml : ops.length = m := by have := hM.1; simpa using this
    refine (all_any (c := d) (kc := kc) (sc := sc) ops hS (.inl (by omega)) h hs (fun W hb _ => Rws.keep hM hb) hk hsn hkn hsn2 nk ns).mono ?_
    rintro r W' ⟨vM, l, L', rfl, h1, h2, h3, h4, h5, h6, h7, _, h8⟩
    obtain ⟨A', c', rfl, hI⟩ := IdsT.of_own h4
    have hl : l.length = m := by rw [h5.len, recT_len]; simpa using hml
    refine ⟨A', l.length, c', l, L', rfl, h1, h2, by omega, hI.ints, fun i x hx => ?_, h6, h8, h7⟩
    have ho : (recT known sent ops [])[i]? = some ((recT known sent ops [])[i]'(by rw [← h5.len]; exact (List.getElem?_eq_some_iff.1 hx).1)) := List.getElem?_eq_getElem _
    have hn := h5.nm i x _ hx ho
    have hd := derO_rec hMi.closed (known := known) (sent := sent) ops (fun o ho => ⟨fun t e => der_had (hMi.all t (haveL_mem.2 (.inl (by rw [← e]; exact ho)))), nk.ok hS.good o ho⟩) (fun o ho => ⟨fun t e => der_had (hMi.all t (haveL_mem.2 (.inr (by rw [← e]; exact ho)))), ns.ok hS.good o ho⟩) _ (List.mem_of_getElem? ho)
    revert hn hd
    generalize (recT known sent ops [])[i]'_ = o
    intro hn hd
    cases o with
    | none => exact .inl (hn.2 rfl)
    | some t => exact .inr ⟨t, hn.1, hd.1 t rfl⟩
  · refine (all_long (kA := kA) (sA := sA) (kn := kn) (kc := kc) (sn := sn) (sc := sc) (g := g) (A := B) (c := d) W0 hm h).mono ?_
    rintro r W' ⟨rfl, rfl⟩
    exact ⟨none, 0, 0, [], L, rfl, hS, ⟨[], by simp⟩, by omega, Rws.nil_, fun i x hx => by simp at hx, Stay.refl _, MapStay.of_below (Below.refl _ _), Nat.le_refl _⟩
set_option maxRecDepth 100000 in
set_option maxHeartbeats 8000000 in
theorem secretRecipes_any (ms ops : List Mk) (A B : Option Addr) (n c m d : Nat) (c0 c1 c2 : Int) (w : World) (hn : n ≤ 9223372036854775807) (H : Rws w 5 A n (ms.map Mk.row)) (hm : m ≤ 9223372036854775807) (Ho : Rws w 5 B m (ops.map Mk.row)) :
    Calls Tryz.prog 4 #[.slice A n c, .agg (cutC c0 c1 c2), .slice B m d] w fun r w' => r = .returned (.bool true) ∧ Below w.heap.size w w' := by
  have hbW := below_new w (.cells (cutC c0 c1 c2) 23)
  have hx1 := heap_new w (.cells (cutC c0 c1 c2) 23)
  have H1 := H.keep hbW
  have O1 := Ho.keep hbW
  have hml : ms.length = n := by have := H.1; simpa using this
  obtain ⟨W1, hW1⟩ : ∃ W1, W1 = w.alloc (.cells (cutC c0 c1 c2) 23) := ⟨_, rfl⟩
  rw [← hW1] at hx1 hbW H1 O1
  have hld := Lib.hid (rangeAt_list (cs := [.int .i64 c0, .int .i64 c1, .int .i64 c2]) hx1)
  have hp := Lib.hid hbW
  have cF := few33_any ms A n c c0 c1 c2 W1 hn H1
  have cG := fun W (h : Below W1.heap.size W1 W) => few14_any ops B m d W hm (O1.keep h)
  unfold cutC at cF
  have cA := Lib.hid (fun W => awake33 W)
  have hx1h := Lib.hid hx1
  have Hh := Lib.hid H1
  have Oh := Lib.hid O1
  have hmh := Lib.hid hm
  clear H Ho hx1 hbW H1 O1
  cases hf : few33B ms c0 c1 c2 with
  | false =>
    rw [hf] at cF
    replace cF := Lib.hid cF
    clear hf cG hml
    go_enter Tryz.func4, Tryz.ntmps4
    go_upto_region 1 with fail
    rw [← hW1]
    clear hW1
    go_wp2_with (first
      | (refine wpList_load_at 23 (.tmp 4) rfl rfl w.heap.size 0 rfl [.int .i64 c0, .int .i64 c1, .int .i64 c2] _ hld.out Tryz.underlying23 rfl (by kernel_rfl) ?_)
      | (go_at_call 7; (with_reducible refine cF.out.mono ?_); rintro r w2 ⟨rfl, hb2⟩; replace hb2 := Lib.hid (hp.out.trans (hb2.mono hp.out.size)))
      | (go_at_call 8; refine (cA.out _).mono ?_; rintro r w3 ⟨rfl, hb3⟩))
    go_ret
    exact ⟨rfl, hb2.out.trans (hb3.mono hb2.out.size)⟩
  | true =>
    cases hg : fewB ops 70 with
    | false =>
      rw [hf] at cF
      rw [hg] at cG
      replace cF := Lib.hid cF
      replace cG := Lib.hid cG
      clear hf hg hml
      go_enter Tryz.func4, Tryz.ntmps4
      go_upto_region 1 with fail
      rw [← hW1]
      clear hW1
      go_wp2_with (first
        | (refine wpList_load_at 23 (.tmp 4) rfl rfl w.heap.size 0 rfl [.int .i64 c0, .int .i64 c1, .int .i64 c2] _ hld.out Tryz.underlying23 rfl (by kernel_rfl) ?_)
        | (go_at_call 7; (with_reducible refine cF.out.mono ?_); rintro r w2 ⟨rfl, hb2⟩; have cG := Lib.hid (cG.out w2 hb2); replace hb2 := Lib.hid (hp.out.trans (hb2.mono hp.out.size)))
        | (go_at_call 15; (with_reducible refine cG.out.mono ?_); rintro r w2 ⟨rfl, rfl⟩)
        | (go_at_call 8; refine (cA.out _).mono ?_; rintro r w3 ⟨rfl, hb3⟩))
      go_ret
      exact ⟨rfl, hb2.out.trans (hb3.mono hb2.out.size)⟩
    | true =>
      rw [hf] at cF
      rw [hg] at cG
      replace cG := Lib.hid cG
      obtain ⟨hn20, h200, ka, kb, kc, rfl, rfl, rfl, hab, hbc, hcn⟩ := few33_iff.1 hf
      rw [hml] at hn20 hcn
      have o200 := Lib.hid (fewB_iff.1 hg).2
      have h200 := Lib.hid h200
      have hmlh := Lib.hid hml
      have habc := Lib.hid (And.intro hab (And.intro hbc hcn))
      replace cF := Lib.hid cF
      clear hf hg hml hn hm hab hbc hcn
      go_enter Tryz.func4, Tryz.ntmps4
      go_upto_region 1 with fail
      rw [← hW1]
      clear hW1
      go_upto_region 4 with (first
        | (refine wpList_load_at 23 (.tmp 4) rfl rfl w.heap.size 0 rfl [.int .i64 (ka : Int), .int .i64 (kb : Int), .int .i64 (kc : Int)] _ hld.out Tryz.underlying23 rfl (by kernel_rfl) ?_)
        | (go_at_call 7; (with_reducible refine cF.out.mono ?_); rintro r w2 ⟨rfl, hb2⟩; have cG := Lib.hid (cG.out w2 hb2); replace hb2 := Lib.hid hb2)
        | (go_at_call 15; (with_reducible refine cG.out.mono ?_); rintro r w2 ⟨rfl, rfl⟩
           have cN := Lib.hid (tnew_any w2))
        | (go_at_call 9; refine cN.out.mono ?_; rintro r w1 ⟨A0, rfl, hN, hA, hb⟩
           have hS0 := St.start hN hA hb
           have cM := Lib.hid (makes_any (c := c) ms w2 w1 A0.g (by omega) h200.out (Hh.out.keep hb2.out) hS0)
           have hz1 := Lib.hid hb.size
           have Oh2 := Lib.hid (Oh.out.keep hb2.out)
           have hb2w := Lib.hid (hp.out.trans (hb2.out.mono hp.out.size))
           have hx2 := Lib.hid ((hb2.out.block w.heap.size (Array.getElem?_eq_some_iff.1 hx1h.out).1).trans hx1h.out)
           clear hN hA hb cN hS0 cF cG
           generalize A0.g = g at *))
      go_upto_region 5 with (first
        | (go_at_call 10; refine cM.out.mono ?_; rintro r w3 hR
           obtain ⟨AI, cI, AT, cT, l, L, rfl, hMd, hL, hnew, hone, hrow⟩ := md_new hmlh.out hz1.out hR
           unfold boxW at hMd
           have hMdh := Lib.hid hMd
           have hnewh := Lib.hid hnew
           have honeh := Lib.hid hone
           have hLn := Lib.hid hL
           clear hR hnew hone hrow cM hMd)
        | (refine wpList_store_at 31 _ _ rfl rfl w3.heap.size #[.slice AI n cI, .slice AT n cT] rfl rfl 31 #[.slice none 0 0, .slice none 0 0] hnewh.out (by kernel_rfl) rfl honeh.out ?_))
      generalize ((w3.alloc (.cells #[.slice none 0 0, .slice none 0 0] 31)).setRow w3.heap.size #[.slice AI n cI, .slice AT n cT]) = W4 at *
      generalize w3.heap.size = q at *
      generalize mksO ms [] = os at *
      clear hnewh honeh hld hp hb2 hz1 Hh Oh hx1h
      have hcI := (hMdh.out.sub3 (lo := 0) (hi := 0) (Nat.zero_le _)).2
      have hs1 := slLH_run3 28 u_ids3 z_ids3 AI n cI ka kb (by have := habc.out; omega) (by have := habc.out; omega)
      have hs2 := slLH_run3 28 u_ids3 z_ids3 AI n cI kb kc (by have := habc.out; omega) (by have := habc.out; omega)
      have hsub := Lib.hid (fun (W' : World) (h : Md w2 g q w1.heap.size W' AI AT n cI cT l L os) => And.intro (h.sub3 (lo := ka) (hi := kb) (by have := habc.out; omega)).1 (h.sub3 (lo := kb) (hi := kc) (by have := habc.out; omega)).1)
      have hnm := Lib.hid (And.intro (hMdh.out.ml.toNmL.sub3 ka kb) (hMdh.out.ml.toNmL.sub3 kb kc))
      have hkk := Lib.hid (show kb - ka ≤ 1000 ∧ kc - kb ≤ 1000 by have := habc.out; omega)
      clear hcI
      generalize subL ka kb l = lk at *
      generalize subL kb kc l = lq at *
      generalize subL ka kb os = known at *
      generalize subL kb kc os = sent at *
      generalize behind3 AI ka cI = kA at *
      generalize behind3 AI kb cI = sA at *
      generalize kb - ka = kn at *
      generalize kc - kb = sn at *
      generalize cI - ka = kcc at *
      generalize cI - kb = scc at *
      have hd1 : Below W4.heap.size W4 W4.drew := drewN_below 1
      obtain ⟨W5, hwd⟩ : ∃ W5, W4.drew = W5 := ⟨_, rfl⟩
      rw [hwd] at hd1
      have hMd5 := hMdh.out.below hd1
      have hcut : ∀ W', Below w2.heap.size w2 W' → W'.cell? ⟨w.heap.size, 0, none⟩ = some (.int .i64 ka) ∧ W'.cell? ⟨w.heap.size, 1, none⟩ = some (.int .i64 kb) ∧ W'.cell? ⟨w.heap.size, 2, none⟩ = some (.int .i64 kc) := fun W' hb => by
        have := (hb.block w.heap.size (Array.getElem?_eq_some_iff.1 hx2.out).1).trans hx2.out
        exact ⟨cell_of_row W' w.heap.size 0 _ _ _ this, cell_of_row W' w.heap.size 1 _ _ _ this, cell_of_row W' w.heap.size 2 _ _ _ this⟩
      obtain ⟨e0, e1, e2⟩ := hcut W5 hMd5.st.below
      have x0 := hMd5.c0
      replace hcut := Lib.hid hcut
      have cNew := Lib.hid (mnew_any hMd5.st (kc := kcc) (sc := scc) (hsub.out W5 hMd5).1.ints (hsub.out W5 hMd5).2.ints hnm.out.1 hnm.out.2 hkk.out.1 hkk.out.2)
      have hMd5h := Lib.hid hMd5
      clear hMd5 hd1 hMdh
      go_still_tail 15, (by kernel_rfl)
      change wpList _ _ _ _ _ W4.drew
      rw [hwd]
      clear hwd
      go_upto_region 6 with (go_at_call 12; (with_reducible refine cNew.out.mono ?_); rintro r w6 hNew
                             obtain ⟨mp, bp, its, ls, rfl, hF, hMi, hS6, hb6⟩ := hNew.fix hMd5h.out.st
                             have hMd6 := Lib.hid (hMd5h.out.below hb6)
                             have hF := Lib.hid hF
                             have hMi := Lib.hid hMi
                             clear hNew hS6 hb6 hMd5h)
      clear cNew e0 e1 e2 x0
      have hd1 : Below w6.heap.size w6 w6.drew := drewN_below 1
      obtain ⟨W7, hwd⟩ : ∃ W7, w6.drew = W7 := ⟨_, rfl⟩
      rw [hwd] at hd1
      have hMd7 := hMd6.out.below hd1
      have hF7 := Lib.hid (hF.out.keep hd1)
      obtain ⟨e0, e1, e2⟩ := hcut.out W7 hMd7.st.below
      have x0 := hMd7.c0
      have cAll := Lib.hid (allS_any (kc := kcc) (sc := scc) (d := d) ops hMd7.st (by have := hLn.out; omega) hmh.out o200.out Oh2.out (hsub.out W7 hMd7).1 (hsub.out W7 hMd7).2 hkk.out.1 hkk.out.2 hnm.out.1 hnm.out.2 hMi.out)
      have hz7 := Lib.hid hMd7.st.below.size
      clear hMd7 hd1 hMd6 hF hcut hsub
      go_still_tail 16, (by kernel_rfl)
      change wpList _ _ _ _ _ w6.drew
      rw [hwd]
      clear hwd
      go_upto_region 8 with (go_at_call 16; (with_reducible refine cAll.out.mono ?_); rintro r w8 ⟨mA, mn, mc, lm, L', rfl, hS8, ⟨e, rfl⟩, hmn, hI8, hd8, hY8, hm8, hz8⟩
                             have hF8 := Lib.hid (hF7.out.grow hS8 hY8 hm8)
                             have hS8 := Lib.hid hS8
                             have hI8 := Lib.hid hI8
                             have hd8 := Lib.hid hd8
                             clear hY8 hm8 hz8)
      clear cAll e0 e1 e2 x0 hs1 hs2 hF7 hmh
      generalize L ++ e = L8 at *
      have h0 := Lib.hid (Below.refl w8.heap.size w8)
      go_loopw [11] (fun iv wr => ∃ i : Nat, i ≤ mn ∧ iv = .int .i64 i ∧ Hid (Below w8.heap.size w8 wr)) (fun iv _ => mn - (intOf iv).toNat)
      case atStart => exact ⟨0, Nat.zero_le _, rfl, h0⟩
      case round =>
        clear h0
        obtain ⟨i, hi, rfl, hb⟩ := hrel
        by_cases hlt : i < mn
        · have hlt' : (i : Int) < (mn : Int) := by omega
          obtain ⟨b1, o1, x, rfl, hbl, hx, hcell⟩ := hI8.out.at_ hlt
          have hc := (hb.out.cell (p := ⟨b1, o1 + i, none⟩) hbl).trans hcell
          rcases hd8.out i x hx with rfl | ⟨t, hg, hd⟩
          · clear hx hcell
            go_wp2_with fail
            go_roundw
            case rel => exact ⟨i + 1, by omega, by go_num, hb⟩
            case measure => simp [intOf]; omega
          · have cC := Lib.hid (mCan_true (hF8.out.keep hb.out) (hS8.out.keep hb.out) x t hg hd)
            have hx0 : 0 ≤ x := by obtain ⟨j, rfl, _⟩ := get_some hg; omega
            have q1 : (x == -1) = false := by rw [beq_eq_false_iff_ne]; omega
            have q2 : (x != -1) = true := by unfold bne; rw [q1]; rfl
            clear hx hcell hg hd
            go_wp2_with (go_at_call 13; (with_reducible refine cC.out.mono ?_); rintro r w9 ⟨rfl, hb9⟩; replace hb9 := Lib.hid (hb.out.trans (hb9.mono hb.out.size)))
            go_roundw
            case rel => exact ⟨i + 1, by omega, by go_num, hb9⟩
            case measure => simp [intOf]; omega
        · have hB9 := Lib.hid (hb2w.out.trans ((hS8.out.below.trans (hb.out.mono hS8.out.below.size)).mono hb2w.out.size))
          clear hb
          go_wp2_with (go_at_call 8; refine (cA.out _).mono ?_; rintro r w9 ⟨rfl, hb9⟩)
          go_ret
          exact ⟨rfl, hB9.out.trans (hb9.mono hB9.out.size)⟩
end

section
open Go.ChangeShapes Go.WideShapes Go.ChangeAt Go.RowKit

theorem tri_int_flat : flatDesc Tryz.prog 3 23 = some [.int .i64, .int .i64, .int .i64] := by kernel_rfl
theorem i64_of {v : Value} (h : cellOk (.int .i64) v) : ∃ n : Int, v = .int .i64 n ∧ -9223372036854775808 ≤ n ∧ n ≤ 9223372036854775807 := by
  obtain ⟨n, rfl, h1, h2⟩ := h
  have h1 : -9223372036854775808 ≤ n := h1
  have h2 : n ≤ 9223372036854775807 := h2
  exact ⟨n, rfl, h1, h2⟩
set_option maxRecDepth 100000 in
theorem open_tri {H : Type} {enc : TypeId × Value → H} {w : World} {base : Nat} {spare : Nat → Bool} {held : Bool} {v : Value} {d : DataW H} {ps : List MemPlace} {r : Reach} {b0 : Nat}
    (hval : Value.okWide Tryz.prog w r b0 23 v) (h : DataW.Trod enc Tryz.prog w base spare held 23 v d ps) :
    ∃ X : List Int, v = .agg (X.map (Value.int .i64)).toArray ∧ X.length = 3 ∧ ∀ x ∈ X, -9223372036854775808 ≤ x ∧ x ≤ 9223372036854775807 := by
  obtain ⟨cs, rfl, _, _⟩ : ∃ cs, v = .agg cs ∧ cs.size = Tryz.prog.cellsOf 23 ∧ Row.okWide Tryz.prog w r b0 23 cs := by
    simpa [Value.okWide, Tryz.underlying23] using hval
  obtain ⟨l⟩ := cs
  obtain ⟨fuel, hf⟩ := h
  obtain ⟨hl, hc⟩ := flat_trod 3 _ _ _ _ _ tri_int_flat hf
  have e : (Value.agg ⟨l⟩).cells.toList = l := rfl
  rw [e] at hl hc
  match l, hl with
  | [c0, c1, c2], _ =>
    obtain ⟨a0, rfl, h0⟩ := i64_of (hc 0 _ _ rfl rfl)
    obtain ⟨a1, rfl, h1⟩ := i64_of (hc 1 _ _ rfl rfl)
    obtain ⟨a2, rfl, h2⟩ := i64_of (hc 2 _ _ rfl rfl)
    refine ⟨[a0, a1, a2], rfl, rfl, fun x hx => ?_⟩
    simp only [List.mem_cons, List.not_mem_nil, or_false] at hx
    rcases hx with rfl | rfl | rfl
    · exact h0
    · exact h1
    · exact h2
end

section
open Go.ChangeShapes Go.WideShapes Go.ChangeAt Go.RowKit

theorem three_of3 {X : List Int} (h : X.length = 3) : ∃ a b c, X = [a, b, c] := by
  match X, h with
  | [a, b, c], _ => exact ⟨a, b, c, rfl⟩
end
end Go.Proofs.YtphnakdgpilcmaaGreatDoor
