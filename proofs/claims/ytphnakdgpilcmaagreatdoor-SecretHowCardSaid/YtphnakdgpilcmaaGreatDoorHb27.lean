/- A recipe for a term: make, of any term; How. -/
import Derived.Test.YtphnakdgpilcmaaGreatDoorHb26
import Derived.Test.YtphnakdgpilcmaaGreatDoorHb21
namespace Go.Proofs.YtphnakdgpilcmaaGreatDoor
open Go.RowKit Go.Maps

/-- Making any term that can be made, of what was had first. -/
theorem mmake_all {V V1 w0 : World} {g m b q bm : Nat} {A0 : Option Addr} {c0 : Nat} {its : List It} {Ls ls : List Tm} {known sent : List (Option Tm)} (hM : MindW V V1 g m b A0 c0 its) (hS : St w0 g V1 Ls) (hN : Named Ls its ls) (hnd : ls.Nodup) (hwhy : Why known sent its ls) :
    ∀ (M n : Nat) (t : Tm), n ≤ its.length → Meas ls n t M → der (ls.take n) t → MkP V1 m q bm Ls known sent n M t := by
  intro M
  induction M using Nat.strongRecOn with
  | ind M ih =>
    intro n t hn hm hd W A c kl nb F x hc ho hnb hx hR
    have hnear : Near V1 m q bm Ls ls known sent its.length M := fun n' M' t' h1 h2 h3 h4 => ih M' (by omega) n' t' h2 h3 h4
    refine mmake_step hM hS hN hc ho hnb hx hR hm.pos (fun i hi hti => ?_) fun hnt => ?_
    · have hMi : M = (i + 1) * 200000 := by
        rcases hm with ⟨i', hi', h', e⟩ | ⟨hno, _⟩
        · have hlt := (List.getElem?_eq_some_iff.1 hti).1
          have : i = i' := (List.getElem?_inj hlt hnd).1 (hti.trans h'.symm)
          rw [e, this]
        · exact absurd (mem_take hti hi) hno
      obtain ⟨it, hit, _⟩ := hN.back hti
      exact mfetch_any hM hS hN hc ho hnb hR hMi hit hti (hwhy i it t hit hti) hnear
    · have hMt : M = n * 200000 + 1 + tsz t := by
        rcases hm with ⟨i', hi', h', _⟩ | ⟨_, e⟩
        · exact absurd (mem_take h' hi') hnt
        · exact e
      exact mbuild_any hM hS hN hn hc ho hnb hR hMt hx hnt hd hnear
/-- What How answers of a term that can be made. -/
def HowR (known sent : List (Option Tm)) (t : Tm) (W : World) (r : Ending) (W' : World) : Prop :=
  ∃ (kl : List Mk) (A : Option Addr) (c j : Nat), r = .returned (.tuple #[.slice A kl.length c, .bool true]) ∧ Below W.heap.size W W' ∧ Rws W' 5 A kl.length (kl.map Mk.row) ∧ kl.length ≤ 2000000000000 ∧ j + 1 = kl.length ∧ (recT known sent kl [])[j]? = some (some t) ∧
    (∀ o ∈ recT known sent kl [], okO o ∧ (encO o).length ≤ 131072) ∧ ∀ x ∈ kl, x.s.length ≤ 131072
theorem cook_start (W : World) (m : Nat) : CookW W ((W.alloc (.map #[] 0)).alloc (.cells #[.pointer (some ⟨m, 0, none⟩), .slice none 0 0, .map (some W.heap.size)] 86)) m (W.heap.size + 1) W.heap.size none 0 [] 0 (fun _ => none) := by
  have h1 := below_new W (.map #[] 0)
  have h2 := below_new (W.alloc (.map #[] 0)) (.cells #[.pointer (some ⟨m, 0, none⟩), .slice none 0 0, .map (some W.heap.size)] 86)
  have hs : (W.alloc (.map #[] 0)).heap.size = W.heap.size + 1 := by simp
  have h3 := heap_new (W.alloc (.map #[] 0)) (.cells #[.pointer (some ⟨m, 0, none⟩), .slice none 0 0, .map (some W.heap.size)] 86)
  rw [hs] at h3
  exact ⟨h1.trans (h2.mono h1.size), h3, by omega, Nat.le_refl _, OwnR.nil_ _ _ _ _, (IMap.made W).keep h2⟩
set_option maxRecDepth 100000 in
set_option maxHeartbeats 2000000 in
theorem mHow_any {w0 W : World} {g m b : Nat} {L : List Tm} {known sent : List (Option Tm)} {its : List It} {ls : List Tm} (hF : MindF w0 g W m b L known sent its ls) (hS : St w0 g W L) (x : Int) (o : Option Tm) (hx : Nm L x o) (hxi : i64 x) :
    Calls Tryz.prog 17 #[.pointer (some ⟨m, 0, none⟩), .int .i64 x] W fun r W' => (¬ canO ls o ∧ r = .returned (.tuple #[.slice none 0 0, .bool false]) ∧ Below W.heap.size W W') ∨ ∃ t, o = some t ∧ der ls t ∧ HowR known sent t W r W' := by
  have cC0 := mCan_any hF hS x o hx.1 hxi
  have hmm := @run_makeMap Tryz.prog
  by_cases hcan : canO ls o
  · obtain ⟨t, ho, hd⟩ := id hcan
    have cC := Lib.hid (Calls.mono cC0 fun (r : Ending) (W2 : World) ⟨q', h1, h2, h3⟩ => (show r = Ending.returned (.bool true) ∧ Below W.heap.size W W2 from ⟨by rw [h1, h2.2 hcan], h3⟩))
    have hpost := Lib.hid (show ∀ r W', HowR known sent t W r W' → (¬ canO ls o ∧ r = .returned (.tuple #[.slice none 0 0, .bool false]) ∧ Below W.heap.size W W') ∨ ∃ t, o = some t ∧ der ls t ∧ HowR known sent t W r W' from fun r W' h => .inr ⟨t, ho, hd, h⟩)
    generalize hP : (fun (r : Ending) (W' : World) => (¬ canO ls o ∧ r = .returned (.tuple #[.slice none 0 0, .bool false]) ∧ Below W.heap.size W W') ∨ ∃ t, o = some t ∧ der ls t ∧ HowR known sent t W r W') = P
    have hpost2 := Lib.hid (show ∀ r W', HowR known sent t W r W' → P r W' from fun r W' h => by rw [← hP]; exact hpost.out r W' h)
    have hxt : get L x = some t := by rw [hx.1, ho]
    have hall := Lib.hid (And.intro hF (And.intro hS (And.intro hxt hd)))
    clear cC0 hP hpost hcan ho hd hxt hx hF hS hxi
    go_enter Tryz.func17, Tryz.ntmps17
    go_upto_region 3 with (go_at_call 13; (with_reducible refine cC.out.mono ?_); rintro r w2 ⟨rfl, hb2⟩; replace hb2 := Lib.hid hb2)
    clear cC
    have hst := cook_start w2 m
    have hFr := hall.out.1.keep hb2.out
    have hSr := hall.out.2.1.keep hb2.out
    obtain ⟨A, c, hMW⟩ := hFr.mi.mem
    obtain ⟨Ms, hMs, hMsl⟩ := Meas.ex ls its.length t
    have htz : tsz t ≤ 131072 := Nat.le_trans (tsz_le t) (hSr.good.size t (get_mem hall.out.2.2.1))
    have hfull : ls.take its.length = ls := hFr.full
    have hmk := mmake_all (q := w2.heap.size + 1) (bm := w2.heap.size) hMW hSr hFr.mi.nm hFr.mi.once hFr.mi.why Ms its.length t (Nat.le_refl _) hMs (by rw [hfull]; exact hall.out.2.2.2)
    have hRm : Room L.length Ms (fun _ => none) 0 := Room.start hSr.few (by have := hMW.few; omega)
    have cM := hmk _ none 0 [] 0 (fun _ => none) x hst (Coo.nil_ _ _ _) (Nat.le_refl _) hall.out.2.2.1 hRm
    have hpos := hMs.pos
    have hMk := hMW.keep hst.below
    obtain ⟨-, m1, -⟩ := hMk.c0
    have cM := Lib.hid (Calls.mono cM fun (r : Ending) (W' : World) hr => (show (∃ j : Nat, r = Ending.returned (.int .i64 j)) ∧ ∃ (kl : List Mk) (A' : Option Addr) (c' : Nat), W'.cell? ⟨w2.heap.size + 1, 1, none⟩ = some (.slice A' kl.length c') ∧ HowR known sent t W (.returned (.tuple #[.slice A' kl.length c', .bool true])) W' by
      obtain ⟨j, A', c', e, nb', F', rfl, h1, h2, h3, h4, h5, h6, h7⟩ := hr
      rw [List.nil_append] at h1 h2 h3 h4 h5
      obtain ⟨A2, c2, e2, hrw⟩ := h1.own.rws
      injection e2 with e3 _ _
      subst e3
      rw [List.length_map] at hrw
      refine ⟨⟨j, rfl⟩, e, A', c', h1.c0.2.1, e, A', c', j, rfl, hb2.out.trans (h1.below.mono hb2.out.size), hrw, ?_, ?_, h3, h2.fine, h2.ops⟩
      · have := hRm.len h5 (by decide) hpos
        exact this
      · have := h4.2 (.inr rfl)
        simpa using this))
    generalize hW3 : ((w2.alloc (.map #[] 0)).alloc (.cells #[.pointer (some ⟨m, 0, none⟩), .slice none 0 0, .map (some w2.heap.size)] 86)) = W3 at *
    replace hW3 := Lib.hid hW3
    have hn100 : its.length ≤ 100 := hMW.few
    clear hst hFr hSr hMW hMs hMsl htz hfull hmk hRm hpos hMk
    go_upto_region 4 with fail
    rw [hW3.out]
    go_wp2_with (go_at_call 37; (with_reducible refine cM.out.mono ?_); rintro r w5 ⟨⟨j, rfl⟩, kl, A', c', f1, hfin⟩; replace hfin := Lib.hid hfin)
    exact hpost2.out _ _ hfin.out
  · have cC := Lib.hid (Calls.mono cC0 fun (r : Ending) (W2 : World) ⟨q', h1, h2, h3⟩ => (show r = Ending.returned (.bool false) ∧ Below W.heap.size W W2 from ⟨by rw [h1]; cases q' with | false => rfl | true => exact absurd (h2.1 rfl) hcan, h3⟩))
    have hpost := (show ∀ r W', r = Ending.returned (.tuple #[.slice none 0 0, .bool false]) → Below W.heap.size W W' → ((¬ canO ls o ∧ r = .returned (.tuple #[.slice none 0 0, .bool false]) ∧ Below W.heap.size W W') ∨ ∃ t, o = some t ∧ der ls t ∧ HowR known sent t W r W') from fun r W' hr h => .inl ⟨hcan, hr, h⟩)
    generalize hP : (fun (r : Ending) (W' : World) => (¬ canO ls o ∧ r = .returned (.tuple #[.slice none 0 0, .bool false]) ∧ Below W.heap.size W W') ∨ ∃ t, o = some t ∧ der ls t ∧ HowR known sent t W r W') = P
    have hpost2 := Lib.hid (show ∀ W', Below W.heap.size W W' → P (Ending.returned (.tuple #[.slice none 0 0, .bool false])) W' from fun W' h => by rw [← hP]; exact hpost _ W' rfl h)
    clear hpost hP
    clear cC0 hcan hF hS hx hxi
    go_enter Tryz.func17, Tryz.ntmps17
    go_wp2_with (go_at_call 13; (with_reducible refine cC.out.mono ?_); rintro r w2 ⟨rfl, hb2⟩; replace hb2 := Lib.hid hb2)
    exact hpost2.out _ hb2.out
end Go.Proofs.YtphnakdgpilcmaaGreatDoor
