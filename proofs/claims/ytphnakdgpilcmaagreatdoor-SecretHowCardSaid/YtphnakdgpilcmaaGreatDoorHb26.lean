/- A recipe that is being written: build. (printed by wip/gen_sfk.py) -/
import Derived.Test.YtphnakdgpilcmaaGreatDoorHb25
namespace Go.Proofs.YtphnakdgpilcmaaGreatDoor
open Go.RowKit Go.Maps

theorem one_l {α : Type} {l : List α} (h : l.length = 1) : ∃ a, l = [a] := by
  match l, h with
  | [a], _ => exact ⟨a, rfl⟩
theorem two_l {α : Type} {l : List α} (h : l.length = 2) : ∃ a b, l = [a, b] := by
  match l, h with
  | [a, b], _ => exact ⟨a, b, rfl⟩
theorem three_l {α : Type} {l : List α} (h : l.length = 3) : ∃ a b c, l = [a, b, c] := by
  match l, h with
  | [a, b, c], _ => exact ⟨a, b, c, rfl⟩
theorem ints_cells {w : World} {A : Option Addr} {n : Nat} {l : List Int} (h : Ints w A n l) (h0 : 0 < l.length) : ∃ b off, A = some ⟨b, off, none⟩ ∧ ∀ j x, l[j]? = some x → w.cell? ⟨b, off + j, none⟩ = some (.int .i64 x) := by
  obtain ⟨b, off, y, rfl, _, _, _⟩ := h.at_ (by rw [h.len] at h0; exact h0)
  refine ⟨b, off, rfl, fun j x hx => ?_⟩
  obtain ⟨b2, o2, y2, e, _, hy, hc⟩ := h.at_ (j := j) (by rw [← h.len]; exact (List.getElem?_eq_some_iff.1 hx).1)
  injection e with e
  injection e with e1 e2 _
  subst e1
  subst e2
  rw [hx] at hy
  rw [Option.some.inj hy]
  exact hc
theorem PtsW.ck {V1 W W' : World} {m q bm : Nat} {L : List Tm} {known sent : List (Option Tm)} {M : Nat} {kl : List Mk} {F : Int → Option Int} {us : List Tm} {v : Value} {js : List Nat} {e : List Mk} {F' : Int → Option Int} (h : PtsW V1 W W' m q bm L known sent M kl F us v js e F')
    (ps : List (Nat × Tm)) (hp : ∀ p ∈ ps, ∃ i : Nat, js[i]? = some p.1 ∧ us[i]? = some p.2) : CkS V1 W W' m q bm L known sent M 0 0 kl F e F' ps := by
  obtain ⟨A', c', nb', hc, hn⟩ := h.cook
  refine ⟨⟨A', c', nb', hc, hn⟩, h.coo, h.pot, h.stay, h.size, fun p hp' => ?_, fun h => absurd h (by decide)⟩
  obtain ⟨i, h1, h2⟩ := hp p hp'
  exact h.all i p.1 p.2 h1 h2
theorem CkR.then_ {V1 W W2 : World} {m q bm : Nat} {L : List Tm} {known sent : List (Option Tm)} {M d : Nat} {kl : List Mk} {F : Int → Option Int} {e : List Mk} {F' : Int → Option Int} {ps : List (Nat × Tm)} (h : CkS V1 W W2 m q bm L known sent M 0 0 kl F e F' ps) (hd : d ≤ 34) {t : Tm} {r : Ending} {W' : World} (hr : CkR V1 W2 m q bm L known sent M d 1 (kl ++ e) F' t r W') : CkR V1 W m q bm L known sent M 34 1 kl F t r W' := by
  obtain ⟨j, A2, c2, e2, nb2, F2, h1, h2, h3, h4, h5, h6, h7, h8⟩ := hr
  rw [List.append_assoc] at h2 h3 h4 h5 h6
  exact ⟨j, A2, c2, e ++ e2, nb2, F2, h1, h2, h3, h4, ⟨h5.1, fun _ => h5.2 (.inl rfl)⟩, (h.pot.trans h6).up (Nat.le_refl _) (by omega), h.stay.trans h7, Nat.le_trans h.size h8⟩
theorem run_byte_ {W : World} {b : Nat} (h : b < 256) : (do let v ← convert 3 5 (.int .i64 b); pure (Next.value v) : Sem Next).run Tryz.prog W = .ok (.value (.int .u8 b)) W := by
  have h2 : IntKind.u8.wrap (b : Int) = b := by
    have : IntKind.u8.wrap (b : Int) = (b : Int) % 256 := rfl
    rw [this]; omega
  go_simp
def dsSk18 : List (Option Nat) := [some 83, some 84, some 85, some 86, some 87, some 88, some 89, some 90, some 91, some 92, some 93, some 94, some 95, some 96, some 97, some 98, some 99, some 6]
def tbSk18 : List (List Nat) := [[], [], [1], [2], [], [4], [5], [], [7], [8], [], [10], [11], [12], [13], [3, 6, 9, 14], [0, 15], [16]]
def vsSk18 (q : Nat) (g : Nat) (m : Nat) (p1 : Nat) (bp : Nat) (o9 : Nat) (x : Int) (n : Nat) (cp : Nat) (a : Nat) (b' : Nat) (s : List UInt8) (Av : Option Addr) (cv : Nat) (j1 : Nat) (j2 : Nat) (j3 : Nat) : List (Option Value) := [some (.pointer (some ⟨q, 0, none⟩)), some (.slice (some ⟨bp, o9, none⟩) 3 cp), some (.pointer (some ⟨bp, o9, none⟩)), some (.int .i64 j1), some (.slice (some ⟨bp, o9, none⟩) 3 cp), some (.pointer (some ⟨bp, o9 + 1, none⟩)), some (.int .i64 j2), some (.slice (some ⟨bp, o9, none⟩) 3 cp), some (.pointer (some ⟨bp, o9 + 2, none⟩)), some (.int .i64 j3), some (.pointer (some ⟨p1, 2, none⟩)), some (.int .i64 b'), some (.int .u8 b'), none, some (.string (bs [UInt8.ofNat b'])), some (.agg #[.int .i64 9, .int .i64 j1, .int .i64 j2, .int .i64 j3, .string (bs [UInt8.ofNat b'])]), none, none]
set_option maxRecDepth 100000 in
set_option maxHeartbeats 4000000 in
theorem mbuild_any {V V1 wr w0 : World} {g m b q bm : Nat} {A0 A : Option Addr} {c0 c : Nat} {its : List It} {Ls ls : List Tm} {known sent : List (Option Tm)} {kl : List Mk} {nb : Nat} {F : Int → Option Int} {M n : Nat} {x : Int} {t : Tm}
    (hM : MindW V V1 g m b A0 c0 its) (hS : St w0 g V1 Ls) (hN : Named Ls its ls) (hn : n ≤ its.length) (hc : CookW V1 wr m q bm A c kl nb F) (ho : Coo Ls known sent kl F) (hnb : nb ≤ kl.length) (hR : Room Ls.length M F kl.length) (hMt : M = n * 200000 + 1 + tsz t)
    (hx : get Ls x = some t) (hnt : t ∉ ls.take n) (hd : der (ls.take n) t) (hnear : Near V1 m q bm Ls ls known sent its.length M) :
    Calls Tryz.prog 83 #[.pointer (some ⟨q, 0, none⟩), .int .i64 x, .int .i64 n] wr (CkR V1 wr m q bm Ls known sent (M - 1) 34 1 kl F t) := by
  have hok := hS.good.ok t (get_mem hx)
  have hlen := hS.good.size t (get_mem hx)
  have hMW := hM.keep hc.below
  have cV := (hS.keep hc.below).vown3 x t hx
  obtain ⟨m0, -, -⟩ := hMW.c0
  obtain ⟨c0', c1', c2'⟩ := hc.c0
  obtain ⟨k, a, b', s, args⟩ := t
  simp only [Tm.kind, Tm.a, Tm.b, Tm.s, Tm.args] at cV
  replace cV := Lib.hid cV
  have hM1 : 1 ≤ M := by omega
  have hts := tsz_mk k a b' s args
  have hch := Lib.hid (And.intro hc (And.intro ho (And.intro hnb (And.intro hR (And.intro hMt hM1)))))
  have hMh := Lib.hid (And.intro hM (And.intro hS (And.intro hN (And.intro hn hnear))))
  have hdh := Lib.hid (And.intro hnt hd)
  have hkh := Lib.hid (And.intro hok hlen)
  have htsh := Lib.hid hts
  clear hM hS hN hn hc ho hnb hR hMt hx hnt hd hnear hM1 hok hlen hMW c1' c2' hts
  go_enter Tryz.func83, Tryz.ntmps83
  go_upto_region 2 with (first
    | (go_at_call 23; refine cV.out.mono ?_; rintro r w1 ⟨Av, cv, xs, rfl, hO, hxs, hb1⟩
       obtain ⟨z1, b1, r1⟩ := nd_box2 w1 k a b' s Av args.length cv
       have z1 := Lib.hid z1
       have r1 := Lib.hid r1
       have hB1 := Lib.hid (hb1.trans (b1.mono hb1.size))
       have hO := Lib.hid (OwnR.keep hO b1)
       have hxs := Lib.hid hxs
       clear hb1 cV b1)
    | (refine wpList_store_at 52 _ _ rfl rfl w1.heap.size (ndC k a b' s (.slice Av args.length cv)).toArray rfl rfl 52 zNd.toArray z1.out (by kernel_rfl) rfl nd_all ?_))
  clear z1 c0'
  replace r1 := r1.out
  replace hO := hO.out
  replace hB1 := hB1.out
  generalize (w1.alloc (.cells #[.int .i64 0, .int .i64 0, .int .i64 0, .string ⟨#[]⟩, .slice none 0 0] 52)).setRow w1.heap.size (ndC k a b' s (.slice Av args.length cv)).toArray = W2 at *
  generalize w1.heap.size = p1 at *
  obtain ⟨d0, d1, d2, d3, d4⟩ := box_cells r1
  obtain ⟨hc, ho, hnb, hR, hMt, hM1⟩ := hch.out
  have hc2 := hc.keep hB1
  have hS2 : CkS V1 W2 W2 m q bm Ls known sent (M - 1) 0 0 kl F [] F [] := CkS.start hc2 ho hnb
  have hfrom := Lib.hid (show ∀ r W', CkR V1 W2 m q bm Ls known sent (M - 1) 34 1 kl F (.mk k a b' s args) r W' → CkR V1 wr m q bm Ls known sent (M - 1) 34 1 kl F (.mk k a b' s args) r W' from fun r W' h => h.from_ hB1)
  have hRh := Lib.hid (And.intro hR (And.intro hMt hM1))
  have hc2h := Lib.hid (And.intro hc2 (And.intro ho hnb))
  have r1h := Lib.hid r1
  obtain ⟨oz, z1, z2, z3, z4⟩ := zip_named hxs.out
  have hOD : OwnD W2 wr.heap.size (.slice Av oz.length cv) (oz.map Prod.fst) := by rw [z4]; exact own_zip hO z1
  have hODh := Lib.hid hOD
  have hS2h := Lib.hid hS2
  have hz := Lib.hid (And.intro z2 (And.intro z3 z4))
  clear hc ho hnb hR hMt hM1 hc2 r1 hO hB1 hxs hch hOD hS2 z1 z2 z3 z4
  rcases kind_cases hkh.out.1 with hk | hk | hk | hk | hk
  · have hk : k = 1 := hk
    subst hk
    have cP : Calls Tryz.prog 103 #[.pointer (some ⟨q, 0, none⟩), .agg #[.int .i64 0, .int .i64 0, .int .i64 0, .int .i64 0, .string (bs s)]] W2 (fun r W3 => CkR V1 wr m q bm Ls known sent (M - 1) 34 1 kl F (.mk 1 a b' s args) r W3 ∧ ∃ j : Nat, r = .returned (.int .i64 j)) :=
      Calls.mono (hS2h.out.put_ hRh.out.1 hRh.out.2.2 (by decide) ⟨0, 0, 0, 0, s⟩ (.mk 1 a b' s args) (fun made _ => st_data hkh.out.1 hkh.out.2 rfl) hkh.out.1 hkh.out.2 (by have := (ok_mk.1 hkh.out.1).1; unfold okHd at this; show s.length ≤ 131072; omega)) fun (r : Ending) (W3 : World) hr => by
        obtain ⟨j, e, rfl, h2⟩ := hr
        exact ⟨hfrom.out _ _ (h2.done (by decide) (by simp)), j, rfl⟩
    replace cP := Lib.hid cP
    go_wp2_with (go_at_call 103; (with_reducible refine cP.out.mono ?_); rintro r w3 ⟨hfin, j, rfl⟩; replace hfin := Lib.hid hfin)
    go_ret
    exact hfin.out
  · have hk : k = 2 := hk
    subst hk
    have ha : a = 0 := ((der_nonce rfl).1 hdh.out.2).elim (fun h => absurd h hdh.out.1) fun h => h.2
    subst ha
    have cP : Calls Tryz.prog 103 #[.pointer (some ⟨q, 0, none⟩), .agg #[.int .i64 1, .int .i64 b', .int .i64 0, .int .i64 0, .string ⟨#[]⟩]] W2 (fun r W3 => CkR V1 wr m q bm Ls known sent (M - 1) 34 1 kl F (.mk 2 0 b' s args) r W3 ∧ ∃ j : Nat, r = .returned (.int .i64 j)) :=
      Calls.mono (hS2h.out.put_ hRh.out.1 hRh.out.2.2 (by decide) ⟨1, b', 0, 0, []⟩ (.mk 2 0 b' s args) (fun made _ => st_nonce hkh.out.1 hkh.out.2 rfl rfl) hkh.out.1 hkh.out.2 (by simp)) fun (r : Ending) (W3 : World) hr => by
        obtain ⟨j, e, rfl, h2⟩ := hr
        exact ⟨hfrom.out _ _ (h2.done (by decide) (by simp)), j, rfl⟩
    replace cP := Lib.hid cP
    go_wp2_with (go_at_call 103; (with_reducible refine cP.out.mono ?_); rintro r w3 ⟨hfin, j, rfl⟩; replace hfin := Lib.hid hfin)
    go_ret
    exact hfin.out
  · have hk : k = 3 := hk
    subst hk
    exact absurd ((der_key rfl).1 hdh.out.2) hdh.out.1
  · have hk : k = 5 := hk
    subst hk
    obtain ⟨rfl, rfl⟩ : a = 0 ∧ b' = 0 := by have := (ok_mk.1 hkh.out.1).1; unfold okHd at this; omega
    obtain ⟨hM, hS, hN, hn, hnear⟩ := hMh.out
    obtain ⟨hc2, ho, hnb⟩ := hc2h.out
    obtain ⟨z2, z3, z4⟩ := hz.out
    have cR := mcraise_any hM hS hN hn hc2 ho hnb hRh.out.1 hRh.out.2.2 s oz hODh.out z3 (by rw [z2]; exact hkh.out.1) (by rw [z2]; exact hdh.out.1) (by rw [z2]; exact ((der_share rfl).1 hdh.out.2).elim (fun h => absurd h hdh.out.1) id)
      (fun z hzm hzn => by
        have hza : z.2 ∈ args := by rw [← z2]; exact List.mem_map_of_mem hzm
        obtain ⟨M1, h1, h2⟩ := Meas.part (ls := ls) (n := n) (t := .mk 5 0 0 s args) hza
        rw [← hRh.out.2.1] at h2
        exact ⟨M1, h2, hnear n M1 z.2 h2 hn h1 ((der_nonce (ok_exps hkh.out.1 rfl z.2 hza)).2 hzn)⟩)
      (fun j y hj hy => by
        obtain ⟨h1, h2⟩ := Meas.share (ls := ls) (n := n) (.mk 5 0 0 s args) hy hj
        rw [← hRh.out.2.1] at h2
        exact ⟨_, h2, hnear (j + 1) _ y h2 (by omega) h1 (der_had (mem_take hy (Nat.lt_succ_self j)))⟩)
    rw [z4, z2] at cR
    have cR := Lib.hid (Calls.mono cR fun (r : Ending) (W' : World) h => (show (∃ j : Nat, r = Ending.returned (.int .i64 j)) ∧ CkR V1 wr m q bm Ls known sent (M - 1) 34 1 kl F (.mk 5 0 0 s args) r W' from ⟨h.elim fun j h => h.elim fun _ h => h.elim fun _ h => h.elim fun _ h => h.elim fun _ h => h.elim fun _ h => ⟨j, h.1⟩, hfrom.out _ _ h⟩))
    have hld := Lib.hid (rangeAt_list (cs := ndC 5 0 0 s (.slice Av args.length cv)) r1h.out)
    clear hM hS hN hn hnear hc2 ho hnb z2 z3 z4
    go_upto_region 8 with fail
    go_wp2_with (first
      | (refine wpList_load_at 52 (.tmp 7) rfl rfl p1 0 rfl (ndC 5 0 0 s (.slice Av args.length cv)) _ hld.out Tryz.underlying52 rfl (by kernel_rfl) ?_)
      | (go_at_call 104; (with_reducible refine cR.out.mono ?_); rintro r w3 ⟨⟨j, rfl⟩, hfin⟩; replace hfin := Lib.hid hfin))
    go_ret
    exact hfin.out
  · have hk : k = 4 ∨ k = 6 ∨ k = 7 ∨ k = 8 ∨ k = 9 ∨ k = 10 := hk
    have hm32 : args.length ≤ 32 := by have := (ok_mk.1 hkh.out.1).1; unfold okHd at this; omega
    have hall : ∀ u ∈ args, der (ls.take n) u := ((der_made (t := .mk k a b' s args) hk).1 hdh.out.2).elim (fun h => absurd h hdh.out.1) id
    have cT : Calls Tryz.prog 106 #[.pointer (some ⟨q, 0, none⟩), .slice Av args.length cv, .int .i64 n] W2 (PtsR V1 W2 m q bm Ls known sent (M - 1) kl F args) := by
      obtain ⟨hM, hS, hN, hn, hnear⟩ := hMh.out
      obtain ⟨hc2, ho, hnb⟩ := hc2h.out
      obtain ⟨z2, z3, z4⟩ := hz.out
      have h := mparts_any (n := n) (M := M) oz hc2 ho hnb hRh.out.1 hRh.out.2.2 hODh.out (by omega) fun z hzm => by
        have hza : z.2 ∈ args := by rw [← z2]; exact List.mem_map_of_mem hzm
        obtain ⟨M1, h1, h2⟩ := Meas.part (ls := ls) (n := n) (t := .mk k a b' s args) hza
        rw [← hRh.out.2.1] at h2
        exact ⟨z3 z hzm, M1, h2, hnear n M1 z.2 h2 hn h1 (hall z.2 hza)⟩
      rw [z4, z2] at h
      exact h
    have cT2 := Lib.hid (Calls.mono cT fun (r : Ending) (W' : World) ⟨v, js, e, F', h1, h2⟩ => (show ∃ (Ap : Option Addr) (cp : Nat) (js : List Nat) (e : List Mk) (F' : Int → Option Int), r = Ending.returned (.slice Ap args.length cp) ∧ js.length = args.length ∧ Ints W' Ap args.length (js.map fun j : Nat => (j : Int)) ∧ PtsW V1 W2 W' m q bm Ls known sent (M - 1) kl F args (.slice Ap args.length cp) js e F' by
      obtain ⟨A3, c3, e3, hI3⟩ := h2.own.ints
      rw [List.length_map, h2.len] at e3 hI3
      subst e3
      exact ⟨A3, c3, js, e, F', h1, h2.len, hI3, h2⟩))
    clear cT hall
    have hd4 := Lib.hid d4
    by_cases hk10 : k = 10
    · subst hk10
      obtain ⟨rfl, rfl, rfl⟩ : a = 0 ∧ b' = 0 ∧ s = [] := by
        have := (ok_mk.1 hkh.out.1).1; unfold okHd at this
        simp only [reduceCtorEq, false_and, or_false, false_or, true_and, Nat.reduceEqDiff] at this
        exact ⟨this.1, this.2.1, this.2.2.1⟩
      have cL := Lib.hid (show ∀ (W' : World) (Ap : Option Addr) (cp : Nat) (js : List Nat) (e : List Mk) (F' : Int → Option Int), PtsW V1 W2 W' m q bm Ls known sent (M - 1) kl F args (.slice Ap args.length cp) js e F' →
          Calls Tryz.prog 105 #[.pointer (some ⟨q, 0, none⟩), .slice Ap args.length cp] W' (fun r W3 => (∃ j : Nat, r = .returned (.int .i64 j)) ∧ CkR V1 wr m q bm Ls known sent (M - 1) 34 1 kl F (.mk 10 0 0 [] args) r W3) from fun W' Ap cp js e F' h => by
        obtain ⟨A', c', nb', hc, hn⟩ := h.cook
        have hck := h.ck [] (fun p h => absurd h List.not_mem_nil)
        have hpt := h.pot.tot
        have hrm := hRh.out.1.2
        have hMt := hRh.out.2.1
        have hts := htsh.out
        have hown := h.own
        have hjl := h.len
        rw [← hjl] at hown ⊢
        refine Calls.mono (mlist_any (M := M - 1) args js hc h.coo hn (by omega) hown hjl h.all hkh.out.1 hkh.out.2 hm32) fun (r : Ending) (W3 : World) hr => ?_
        exact ⟨hr.elim fun j h => h.elim fun _ h => h.elim fun _ h => h.elim fun _ h => h.elim fun _ h => h.elim fun _ h => ⟨j, h.1⟩, hfrom.out _ _ (CkR.then_ hck (by decide) hr)⟩)
      clear hm32 d1 d2 d3
      go_wp2_with (first
        | (go_at_call 106; (with_reducible refine cT2.out.mono ?_); rintro r w3 ⟨Ap, cp, js, e, F', rfl, -, -, hP⟩
           have cL2 := Lib.hid (cL.out w3 Ap cp js e F' hP)
           clear hP)
        | (go_at_call 105; (with_reducible refine cL2.out.mono ?_); rintro r w4 ⟨⟨j, rfl⟩, hfin⟩; replace hfin := Lib.hid hfin))
      go_ret
      exact hfin.out
    · have k1 : ((k : Int) == 1) = false := by rw [beq_eq_false_iff_ne]; omega
      have k2 : ((k : Int) == 2) = false := by rw [beq_eq_false_iff_ne]; omega
      have k5 : ((k : Int) == 5) = false := by rw [beq_eq_false_iff_ne]; omega
      have k10 : ((k : Int) == 10) = false := by rw [beq_eq_false_iff_ne]; omega
      have hkk := Lib.hid (And.intro hk hk10)
      clear hk hk10 hm32
      go_upto_region 12 with (go_at_call 106; (with_reducible refine cT2.out.mono ?_); rintro r w3 ⟨Ap, cp, js, e, F', rfl, hjl, hI3, hP⟩)
      have r3 := hP.stay p1 _ _ _ r1h.out (by decide) (by decide)
      have hPh := Lib.hid hP
      have hI3h := Lib.hid hI3
      have hjlh := Lib.hid hjl
      clear cT2 d0 d1 d2 d3 d4 hd4 k1 k2 k5 k10 hP hI3 hjl
      have hk5 : k = 4 ∨ k = 6 ∨ k = 7 ∨ k = 8 ∨ k = 9 := by have := hkk.out; omega
      clear hkk
      rcases hk5 with rfl | rfl | rfl | rfl | rfl
      · obtain ⟨u1, rfl⟩ := one_l (show args.length = 1 by have := (ok_mk.1 hkh.out.1).1; unfold okHd at this; omega)
        obtain ⟨j1, rfl⟩ := one_l (show js.length = 1 from hjlh.out)
        obtain ⟨bp, o9, rfl, hcs⟩ := ints_cells hI3h.out (by simp)
        have cP := Lib.hid (show ∀ W3, Below w3.heap.size w3 W3 → Calls Tryz.prog 103 #[.pointer (some ⟨q, 0, none⟩), .agg #[.int .i64 6, .int .i64 j1, .int .i64 0, .int .i64 0, .string ⟨#[]⟩]] W3 (fun r W4 => CkR V1 wr m q bm Ls known sent (M - 1) 34 1 kl F (.mk 4 a b' s [u1]) r W4 ∧ ∃ j : Nat, r = .returned (.int .i64 j)) from fun W3 hb3 =>
          Calls.mono (((hPh.out.ck [(j1, u1)] (by
            intro p hp
            simp only [List.mem_cons, List.not_mem_nil, or_false] at hp
            subst hp; exact ⟨0, rfl, rfl⟩)).keep hb3).put_ hRh.out.1 hRh.out.2.2 (by decide) ⟨6, j1, 0, 0, []⟩ (.mk 4 a b' s [u1]) (fun made hm => st_pub (hm _ List.mem_cons_self) hkh.out.1 hkh.out.2 rfl rfl) hkh.out.1 hkh.out.2 (by simp)) fun (r : Ending) (W4 : World) hr => by
              obtain ⟨j, e4, rfl, h2⟩ := hr
              exact ⟨hfrom.out _ _ (h2.done (by decide) (by simp)), j, rfl⟩)
        obtain ⟨d0, d1, d2, d3, d4⟩ := box_cells r3
        have x0 := hcs 0 _ rfl
        rw [Nat.add_zero] at x0
        replace cP := Lib.hid (cP.out w3 (Below.refl _ _))
        clear hcs r3 hPh hI3h hjlh d1 d2 d3 d4
        go_wp2_with (go_at_call 103; (with_reducible refine cP.out.mono ?_); rintro r w4 ⟨hfin, j, rfl⟩; replace hfin := Lib.hid hfin)
        go_ret
        exact hfin.out
      · obtain ⟨u1, u2, rfl⟩ := two_l (show args.length = 2 by have := (ok_mk.1 hkh.out.1).1; unfold okHd at this; omega)
        obtain ⟨j1, j2, rfl⟩ := two_l (show js.length = 2 from hjlh.out)
        obtain ⟨bp, o9, rfl, hcs⟩ := ints_cells hI3h.out (by simp)
        have cP := Lib.hid (show ∀ W3, Below w3.heap.size w3 W3 → Calls Tryz.prog 103 #[.pointer (some ⟨q, 0, none⟩), .agg #[.int .i64 7, .int .i64 j1, .int .i64 j2, .int .i64 0, .string (bs s)]] W3 (fun r W4 => CkR V1 wr m q bm Ls known sent (M - 1) 34 1 kl F (.mk 6 a b' s [u1, u2]) r W4 ∧ ∃ j : Nat, r = .returned (.int .i64 j)) from fun W3 hb3 =>
          Calls.mono (((hPh.out.ck [(j1, u1), (j2, u2)] (by
            intro p hp
            simp only [List.mem_cons, List.not_mem_nil, or_false] at hp
            rcases hp with rfl | rfl
            · exact ⟨0, rfl, rfl⟩
            · exact ⟨1, rfl, rfl⟩)).keep hb3).put_ hRh.out.1 hRh.out.2.2 (by decide) ⟨7, j1, j2, 0, s⟩ (.mk 6 a b' s [u1, u2]) (fun made hm => st_sign (hm _ List.mem_cons_self) (hm _ (List.mem_cons_of_mem _ List.mem_cons_self)) hkh.out.1 hkh.out.2 rfl rfl) hkh.out.1 hkh.out.2 (by have := (ok_mk.1 hkh.out.1).1; unfold okHd at this; show s.length ≤ 131072; omega)) fun (r : Ending) (W4 : World) hr => by
              obtain ⟨j, e4, rfl, h2⟩ := hr
              exact ⟨hfrom.out _ _ (h2.done (by decide) (by simp)), j, rfl⟩)
        have d0 := (box_cells r3).1
        go_upto_region 16 with fail
        clear d0
        have hd1 : Below w3.heap.size w3 w3.drew := drewN_below 1
        obtain ⟨W5, hwd⟩ : ∃ W5, w3.drew = W5 := ⟨_, rfl⟩
        rw [hwd] at hd1
        have r5 := (hd1.block p1 (Array.getElem?_eq_some_iff.1 r3).1).trans r3
        obtain ⟨d0, d1, d2, d3, d4⟩ := box_cells r5
        have x0 := (hd1.cell (lt_of_cell (hcs 0 _ rfl))).trans (hcs 0 _ rfl)
        rw [Nat.add_zero] at x0
        have x1 := (hd1.cell (lt_of_cell (hcs 1 _ rfl))).trans (hcs 1 _ rfl)
        replace cP := Lib.hid (cP.out W5 hd1)
        clear hcs r3 r5 hPh hI3h hjlh hd1
        go_still_tail 10, (by kernel_rfl)
        change wpList _ _ _ _ _ w3.drew
        rw [hwd]
        clear hwd
        go_wp2_with (go_at_call 103; (with_reducible refine cP.out.mono ?_); rintro r w4 ⟨hfin, j, rfl⟩; replace hfin := Lib.hid hfin)
        go_ret
        exact hfin.out
      · obtain ⟨u1, rfl⟩ := one_l (show args.length = 1 by have := (ok_mk.1 hkh.out.1).1; unfold okHd at this; omega)
        obtain ⟨j1, rfl⟩ := one_l (show js.length = 1 from hjlh.out)
        obtain ⟨bp, o9, rfl, hcs⟩ := ints_cells hI3h.out (by simp)
        have cP := Lib.hid (show ∀ W3, Below w3.heap.size w3 W3 → Calls Tryz.prog 103 #[.pointer (some ⟨q, 0, none⟩), .agg #[.int .i64 8, .int .i64 j1, .int .i64 0, .int .i64 0, .string ⟨#[]⟩]] W3 (fun r W4 => CkR V1 wr m q bm Ls known sent (M - 1) 34 1 kl F (.mk 7 a b' s [u1]) r W4 ∧ ∃ j : Nat, r = .returned (.int .i64 j)) from fun W3 hb3 =>
          Calls.mono (((hPh.out.ck [(j1, u1)] (by
            intro p hp
            simp only [List.mem_cons, List.not_mem_nil, or_false] at hp
            subst hp; exact ⟨0, rfl, rfl⟩)).keep hb3).put_ hRh.out.1 hRh.out.2.2 (by decide) ⟨8, j1, 0, 0, []⟩ (.mk 7 a b' s [u1]) (fun made hm => st_hash (hm _ List.mem_cons_self) hkh.out.1 hkh.out.2 rfl rfl) hkh.out.1 hkh.out.2 (by simp)) fun (r : Ending) (W4 : World) hr => by
              obtain ⟨j, e4, rfl, h2⟩ := hr
              exact ⟨hfrom.out _ _ (h2.done (by decide) (by simp)), j, rfl⟩)
        obtain ⟨d0, d1, d2, d3, d4⟩ := box_cells r3
        have x0 := hcs 0 _ rfl
        rw [Nat.add_zero] at x0
        replace cP := Lib.hid (cP.out w3 (Below.refl _ _))
        clear hcs r3 hPh hI3h hjlh d1 d2 d3 d4
        go_wp2_with (go_at_call 103; (with_reducible refine cP.out.mono ?_); rintro r w4 ⟨hfin, j, rfl⟩; replace hfin := Lib.hid hfin)
        go_ret
        exact hfin.out
      · obtain ⟨u1, u2, u3, rfl⟩ := three_l (show args.length = 3 by have := (ok_mk.1 hkh.out.1).1; unfold okHd at this; omega)
        obtain ⟨j1, j2, j3, rfl⟩ := three_l (show js.length = 3 from hjlh.out)
        obtain ⟨bp, o9, rfl, hcs⟩ := ints_cells hI3h.out (by simp)
        have cP := Lib.hid (show ∀ W3, Below w3.heap.size w3 W3 → Calls Tryz.prog 103 #[.pointer (some ⟨q, 0, none⟩), .agg #[.int .i64 9, .int .i64 j1, .int .i64 j2, .int .i64 j3, .string (bs [UInt8.ofNat b'])]] W3 (fun r W4 => CkR V1 wr m q bm Ls known sent (M - 1) 34 1 kl F (.mk 8 a b' s [u1, u2, u3]) r W4 ∧ ∃ j : Nat, r = .returned (.int .i64 j)) from fun W3 hb3 =>
          Calls.mono (((hPh.out.ck [(j1, u1), (j2, u2), (j3, u3)] (by
            intro p hp
            simp only [List.mem_cons, List.not_mem_nil, or_false] at hp
            rcases hp with rfl | rfl | rfl
            · exact ⟨0, rfl, rfl⟩
            · exact ⟨1, rfl, rfl⟩
            · exact ⟨2, rfl, rfl⟩)).keep hb3).put_ hRh.out.1 hRh.out.2.2 (by decide) ⟨9, j1, j2, j3, [UInt8.ofNat b']⟩ (.mk 8 a b' s [u1, u2, u3]) (fun made hm => st_derive (hm _ List.mem_cons_self) (hm _ (List.mem_cons_of_mem _ List.mem_cons_self)) (hm _ (List.mem_cons_of_mem _ (List.mem_cons_of_mem _ List.mem_cons_self))) hkh.out.1 hkh.out.2 rfl rfl) hkh.out.1 hkh.out.2 (by simp)) fun (r : Ending) (W4 : World) hr => by
              obtain ⟨j, e4, rfl, h2⟩ := hr
              exact ⟨hfrom.out _ _ (h2.done (by decide) (by simp)), j, rfl⟩)
        have d0 := (box_cells r3).1
        go_upto_region 18 with fail
        clear d0
        have hlt3 : p1 < w3.heap.size := (Array.getElem?_eq_some_iff.1 r3).1
        have hcx := Lib.hid (fun W' (h : Below w3.heap.size w3 W') => (⟨(h.cell (lt_of_cell (hcs 0 _ rfl))).trans (hcs 0 _ rfl), (h.cell (lt_of_cell (hcs 1 _ rfl))).trans (hcs 1 _ rfl), (h.cell (lt_of_cell (hcs 2 _ rfl))).trans (hcs 2 _ rfl), (box_cells ((h.block p1 hlt3).trans r3)).2.2.1⟩ :
          W'.cell? ⟨bp, o9 + 0, none⟩ = some (.int .i64 j1) ∧ W'.cell? ⟨bp, o9 + 1, none⟩ = some (.int .i64 j2) ∧ W'.cell? ⟨bp, o9 + 2, none⟩ = some (.int .i64 j3) ∧ W'.cell? ⟨p1, 2, none⟩ = some (.int .i64 b')))
        have hb256 : b' < 256 := by have := (ok_mk.1 hkh.out.1).1; unfold okHd at this; omega
        clear hcs r3 hPh hI3h hjlh hlt3 m0
        refine region_iw tbSk18 dsSk18 (vsSk18 q g m p1 bp o9 x n cp a b' s Av cv j1 j2 j3) (fun L T W => ∃ (g1 jr : Nat), (L 16 = false → Below w3.heap.size w3 W) ∧ (L 13 = true → T.getD 96 undef = .slice (some ⟨g1, 0, none⟩) 1 1) ∧ (L 13 = true → L 16 = false → W.heap[g1]? = some (.cells #[.int .u8 b'] 5 (0, 0))) ∧ (L 16 = true → T.getD 99 undef = .int .i64 jr ∧ CkR V1 wr m q bm Ls known sent (M - 1) 34 1 kl F (.mk 8 a b' s [u1, u2, u3]) (.returned (.int .i64 jr)) W) ∧ (L 17 = true → T.getD 6 undef = .int .i64 jr)) rfl (by decide) (by kernel_rfl) ?hlt ?hstep ?hdone ?hstart
        case hstart => exact ⟨0, 0, fun _ => drewN_below 1, fun h => absurd h (inv_not (n := 18) (i := 13) (by decide)), fun h => absurd h (inv_not (n := 18) (i := 13) (by decide)), fun h => absurd h (inv_not (n := 18) (i := 16) (by decide)), fun h => absurd h (inv_not (n := 18) (i := 17) (by decide))⟩
        case hlt =>
          intro ix o ho
          have hi := (Array.getElem?_eq_some_iff.1 ho).1
          match ix, hi with
          | 0, _ => obtain rfl := Option.some.inj ho; decide
          | 1, _ => obtain rfl := Option.some.inj ho; decide
          | 2, _ => obtain rfl := Option.some.inj ho; decide
          | 3, _ => obtain rfl := Option.some.inj ho; decide
          | 4, _ => obtain rfl := Option.some.inj ho; decide
          | 5, _ => obtain rfl := Option.some.inj ho; decide
          | 6, _ => obtain rfl := Option.some.inj ho; decide
          | 7, _ => obtain rfl := Option.some.inj ho; decide
          | 8, _ => obtain rfl := Option.some.inj ho; decide
          | 9, _ => obtain rfl := Option.some.inj ho; decide
          | 10, _ => obtain rfl := Option.some.inj ho; decide
          | 11, _ => obtain rfl := Option.some.inj ho; decide
          | 12, _ => obtain rfl := Option.some.inj ho; decide
          | 13, _ => obtain rfl := Option.some.inj ho; decide
          | 14, _ => obtain rfl := Option.some.inj ho; decide
          | 15, _ => obtain rfl := Option.some.inj ho; decide
          | 16, _ => obtain rfl := Option.some.inj ho; decide
          | 17, _ => obtain rfl := Option.some.inj ho; decide
        case hstep =>
          intro T1 hE L T W ix o hF hW hc ho hLi hd K hK
          have hN : T1.size = 119 := by rw [hE]; rfl
          have f0 : T.getD 0 undef = .pointer (some ⟨q, 0, none⟩) := (hF.old 0 (by decide)).trans (by rw [hE]; rfl)
          have f7 : T.getD 7 undef = .pointer (some ⟨p1, 0, none⟩) := (hF.old 7 (by decide)).trans (by rw [hE]; rfl)
          have f9 : T.getD 9 undef = .slice (some ⟨bp, o9, none⟩) 3 cp := (hF.old 9 (by decide)).trans (by rw [hE]; rfl)
          clear hE
          replace hF := Lib.hid hF
          replace hW := Lib.hid hW
          replace hK := Lib.hid hK
          have hi := (List.getElem?_eq_some_iff.1 ho).1
          match ix, hi with
          | 0, _ =>
            obtain rfl := Option.some.inj ho
            clear hd ho hi hc hLi
            exact st_val (v := .pointer (some ⟨q, 0, none⟩)) (w' := W) (want_none rfl) (by unfold execOp; dsimp only [Act.eval]; simp only [f0]; go_simp) (hK.out _ _ (hF.out.put (k := 0) (s := 83) rfl (by decide) hN (by decide) (fun u_v hu => Option.some.inj (Option.some.inj (show some (some (.pointer (some ⟨q, 0, none⟩))) = some (some u_v) from hu))) (by dsimp only; rw [gd_ne (show 83 ≠ 96 by decide), gd_ne (show 83 ≠ 99 by decide), gd_ne (show 83 ≠ 6 by decide)]; exact hW.out)))
          | 1, _ =>
            obtain rfl := Option.some.inj ho
            clear hd ho hi hc hLi
            exact st_val (v := .slice (some ⟨bp, o9, none⟩) 3 cp) (w' := W) (want_none rfl) (by unfold execOp; dsimp only [Act.eval]; simp only [f9]; go_simp) (hK.out _ _ (hF.out.put (k := 1) (s := 84) rfl (by decide) hN (by decide) (fun u_v hu => Option.some.inj (Option.some.inj (show some (some (.slice (some ⟨bp, o9, none⟩) 3 cp)) = some (some u_v) from hu))) (by dsimp only; rw [gd_ne (show 84 ≠ 96 by decide), gd_ne (show 84 ≠ 99 by decide), gd_ne (show 84 ≠ 6 by decide)]; exact hW.out)))
          | 2, _ =>
            obtain rfl := Option.some.inj ho
            have l1 : L 1 = true := dep_of hd (n := 1) (by decide)
            have e84 : T.getD 84 undef = .slice (some ⟨bp, o9, none⟩) 3 cp := hF.out.val 1 84 _ l1 rfl rfl
            clear hd ho hi hc hLi
            exact st_val (v := .pointer (some ⟨bp, o9, none⟩)) (w' := W) (want_none rfl) (by unfold execOp; dsimp only [Act.eval]; simp only [e84]; go_simp) (hK.out _ _ (hF.out.put (k := 2) (s := 85) rfl (by decide) hN (by decide) (fun u_v hu => Option.some.inj (Option.some.inj (show some (some (.pointer (some ⟨bp, o9, none⟩))) = some (some u_v) from hu))) (by dsimp only; rw [gd_ne (show 85 ≠ 96 by decide), gd_ne (show 85 ≠ 99 by decide), gd_ne (show 85 ≠ 6 by decide)]; exact hW.out)))
          | 3, _ =>
            obtain rfl := Option.some.inj ho
            have l2 : L 2 = true := dep_of hd (n := 2) (by decide)
            have e85 : T.getD 85 undef = .pointer (some ⟨bp, o9, none⟩) := hF.out.val 2 85 _ l2 rfl rfl
            have n16 : ¬ L 16 = true := fun h => by have := (hc 15 3 (hc 16 15 h (by decide)) (by decide)); rw [hLi] at this; cases this
            obtain ⟨g1, jr, p0, pA, pB, pC, pD⟩ := hW.out
            have hb := p0 (Bool.eq_false_iff.2 n16)
            have hcc := (hcx.out W hb).1
            rw [Nat.add_zero] at hcc
            clear hd ho hi hc hLi
            exact st_val (v := .int .i64 j1) (w' := W) (want_none rfl) (by unfold execOp; dsimp only [Act.eval]; simp only [e85]; go_simp) (hK.out _ _ (hF.out.put (k := 3) (s := 86) rfl (by decide) hN (by decide) (fun u_v hu => Option.some.inj (Option.some.inj (show some (some (.int .i64 j1)) = some (some u_v) from hu))) (by dsimp only; rw [gd_ne (show 86 ≠ 96 by decide), gd_ne (show 86 ≠ 99 by decide), gd_ne (show 86 ≠ 6 by decide)]; exact hW.out)))
          | 4, _ =>
            obtain rfl := Option.some.inj ho
            clear hd ho hi hc hLi
            exact st_val (v := .slice (some ⟨bp, o9, none⟩) 3 cp) (w' := W) (want_none rfl) (by unfold execOp; dsimp only [Act.eval]; simp only [f9]; go_simp) (hK.out _ _ (hF.out.put (k := 4) (s := 87) rfl (by decide) hN (by decide) (fun u_v hu => Option.some.inj (Option.some.inj (show some (some (.slice (some ⟨bp, o9, none⟩) 3 cp)) = some (some u_v) from hu))) (by dsimp only; rw [gd_ne (show 87 ≠ 96 by decide), gd_ne (show 87 ≠ 99 by decide), gd_ne (show 87 ≠ 6 by decide)]; exact hW.out)))
          | 5, _ =>
            obtain rfl := Option.some.inj ho
            have l4 : L 4 = true := dep_of hd (n := 4) (by decide)
            have e87 : T.getD 87 undef = .slice (some ⟨bp, o9, none⟩) 3 cp := hF.out.val 4 87 _ l4 rfl rfl
            clear hd ho hi hc hLi
            exact st_val (v := .pointer (some ⟨bp, o9 + 1, none⟩)) (w' := W) (want_none rfl) (by unfold execOp; dsimp only [Act.eval]; simp only [e87]; go_simp) (hK.out _ _ (hF.out.put (k := 5) (s := 88) rfl (by decide) hN (by decide) (fun u_v hu => Option.some.inj (Option.some.inj (show some (some (.pointer (some ⟨bp, o9 + 1, none⟩))) = some (some u_v) from hu))) (by dsimp only; rw [gd_ne (show 88 ≠ 96 by decide), gd_ne (show 88 ≠ 99 by decide), gd_ne (show 88 ≠ 6 by decide)]; exact hW.out)))
          | 6, _ =>
            obtain rfl := Option.some.inj ho
            have l5 : L 5 = true := dep_of hd (n := 5) (by decide)
            have e88 : T.getD 88 undef = .pointer (some ⟨bp, o9 + 1, none⟩) := hF.out.val 5 88 _ l5 rfl rfl
            have n16 : ¬ L 16 = true := fun h => by have := (hc 15 6 (hc 16 15 h (by decide)) (by decide)); rw [hLi] at this; cases this
            obtain ⟨g1, jr, p0, pA, pB, pC, pD⟩ := hW.out
            have hb := p0 (Bool.eq_false_iff.2 n16)
            have hcc := (hcx.out W hb).2.1
            clear hd ho hi hc hLi
            exact st_val (v := .int .i64 j2) (w' := W) (want_none rfl) (by unfold execOp; dsimp only [Act.eval]; simp only [e88]; go_simp) (hK.out _ _ (hF.out.put (k := 6) (s := 89) rfl (by decide) hN (by decide) (fun u_v hu => Option.some.inj (Option.some.inj (show some (some (.int .i64 j2)) = some (some u_v) from hu))) (by dsimp only; rw [gd_ne (show 89 ≠ 96 by decide), gd_ne (show 89 ≠ 99 by decide), gd_ne (show 89 ≠ 6 by decide)]; exact hW.out)))
          | 7, _ =>
            obtain rfl := Option.some.inj ho
            clear hd ho hi hc hLi
            exact st_val (v := .slice (some ⟨bp, o9, none⟩) 3 cp) (w' := W) (want_none rfl) (by unfold execOp; dsimp only [Act.eval]; simp only [f9]; go_simp) (hK.out _ _ (hF.out.put (k := 7) (s := 90) rfl (by decide) hN (by decide) (fun u_v hu => Option.some.inj (Option.some.inj (show some (some (.slice (some ⟨bp, o9, none⟩) 3 cp)) = some (some u_v) from hu))) (by dsimp only; rw [gd_ne (show 90 ≠ 96 by decide), gd_ne (show 90 ≠ 99 by decide), gd_ne (show 90 ≠ 6 by decide)]; exact hW.out)))
          | 8, _ =>
            obtain rfl := Option.some.inj ho
            have l7 : L 7 = true := dep_of hd (n := 7) (by decide)
            have e90 : T.getD 90 undef = .slice (some ⟨bp, o9, none⟩) 3 cp := hF.out.val 7 90 _ l7 rfl rfl
            clear hd ho hi hc hLi
            exact st_val (v := .pointer (some ⟨bp, o9 + 2, none⟩)) (w' := W) (want_none rfl) (by unfold execOp; dsimp only [Act.eval]; simp only [e90]; go_simp) (hK.out _ _ (hF.out.put (k := 8) (s := 91) rfl (by decide) hN (by decide) (fun u_v hu => Option.some.inj (Option.some.inj (show some (some (.pointer (some ⟨bp, o9 + 2, none⟩))) = some (some u_v) from hu))) (by dsimp only; rw [gd_ne (show 91 ≠ 96 by decide), gd_ne (show 91 ≠ 99 by decide), gd_ne (show 91 ≠ 6 by decide)]; exact hW.out)))
          | 9, _ =>
            obtain rfl := Option.some.inj ho
            have l8 : L 8 = true := dep_of hd (n := 8) (by decide)
            have e91 : T.getD 91 undef = .pointer (some ⟨bp, o9 + 2, none⟩) := hF.out.val 8 91 _ l8 rfl rfl
            have n16 : ¬ L 16 = true := fun h => by have := (hc 15 9 (hc 16 15 h (by decide)) (by decide)); rw [hLi] at this; cases this
            obtain ⟨g1, jr, p0, pA, pB, pC, pD⟩ := hW.out
            have hb := p0 (Bool.eq_false_iff.2 n16)
            have hcc := (hcx.out W hb).2.2.1
            clear hd ho hi hc hLi
            exact st_val (v := .int .i64 j3) (w' := W) (want_none rfl) (by unfold execOp; dsimp only [Act.eval]; simp only [e91]; go_simp) (hK.out _ _ (hF.out.put (k := 9) (s := 92) rfl (by decide) hN (by decide) (fun u_v hu => Option.some.inj (Option.some.inj (show some (some (.int .i64 j3)) = some (some u_v) from hu))) (by dsimp only; rw [gd_ne (show 92 ≠ 96 by decide), gd_ne (show 92 ≠ 99 by decide), gd_ne (show 92 ≠ 6 by decide)]; exact hW.out)))
          | 10, _ =>
            obtain rfl := Option.some.inj ho
            clear hd ho hi hc hLi
            exact st_val (v := .pointer (some ⟨p1, 2, none⟩)) (w' := W) (want_none rfl) (by unfold execOp; dsimp only [Act.eval]; simp only [f7]; go_simp) (hK.out _ _ (hF.out.put (k := 10) (s := 93) rfl (by decide) hN (by decide) (fun u_v hu => Option.some.inj (Option.some.inj (show some (some (.pointer (some ⟨p1, 2, none⟩))) = some (some u_v) from hu))) (by dsimp only; rw [gd_ne (show 93 ≠ 96 by decide), gd_ne (show 93 ≠ 99 by decide), gd_ne (show 93 ≠ 6 by decide)]; exact hW.out)))
          | 11, _ =>
            obtain rfl := Option.some.inj ho
            have l10 : L 10 = true := dep_of hd (n := 10) (by decide)
            have e93 : T.getD 93 undef = .pointer (some ⟨p1, 2, none⟩) := hF.out.val 10 93 _ l10 rfl rfl
            have n16 : ¬ L 16 = true := fun h => by have := (hc 12 11 (hc 13 12 (hc 14 13 (hc 15 14 (hc 16 15 h (by decide)) (by decide)) (by decide)) (by decide)) (by decide)); rw [hLi] at this; cases this
            obtain ⟨g1, jr, p0, pA, pB, pC, pD⟩ := hW.out
            have hb := p0 (Bool.eq_false_iff.2 n16)
            have hcc := (hcx.out W hb).2.2.2
            clear hd ho hi hc hLi
            exact st_val (v := .int .i64 b') (w' := W) (want_none rfl) (by unfold execOp; dsimp only [Act.eval]; simp only [e93]; go_simp) (hK.out _ _ (hF.out.put (k := 11) (s := 94) rfl (by decide) hN (by decide) (fun u_v hu => Option.some.inj (Option.some.inj (show some (some (.int .i64 b')) = some (some u_v) from hu))) (by dsimp only; rw [gd_ne (show 94 ≠ 96 by decide), gd_ne (show 94 ≠ 99 by decide), gd_ne (show 94 ≠ 6 by decide)]; exact hW.out)))
          | 12, _ =>
            obtain rfl := Option.some.inj ho
            have l11 : L 11 = true := dep_of hd (n := 11) (by decide)
            have e94 : T.getD 94 undef = .int .i64 b' := hF.out.val 11 94 _ l11 rfl rfl
            clear hd ho hi hc hLi
            exact st_val (v := .int .u8 b') (w' := W) (want_none rfl) (by unfold execOp; dsimp only [Act.eval]; simp only [e94]; exact run_byte_ hb256) (hK.out _ _ (hF.out.put (k := 12) (s := 95) rfl (by decide) hN (by decide) (fun u_v hu => Option.some.inj (Option.some.inj (show some (some (.int .u8 b')) = some (some u_v) from hu))) (by dsimp only; rw [gd_ne (show 95 ≠ 96 by decide), gd_ne (show 95 ≠ 99 by decide), gd_ne (show 95 ≠ 6 by decide)]; exact hW.out)))
          | 13, _ =>
            obtain rfl := Option.some.inj ho
            have l12 : L 12 = true := dep_of hd (n := 12) (by decide)
            have e95 : T.getD 95 undef = .int .u8 b' := hF.out.val 12 95 _ l12 rfl rfl
            have n16 : ¬ L 16 = true := fun h => by have := (hc 14 13 (hc 15 14 (hc 16 15 h (by decide)) (by decide)) (by decide)); rw [hLi] at this; cases this
            have n17 : ¬ L 17 = true := fun h => n16 (hc 17 16 h (by decide))
            obtain ⟨g1, jr, p0, pA, pB, pC, pD⟩ := hW.out
            have hb := p0 (Bool.eq_false_iff.2 n16)
            have hbn := below_new W (.cells #[.int .u8 b'] 5)
            clear hd ho hi hc
            exact st_val (v := .slice (some ⟨W.heap.size, 0, none⟩) 1 1) (w' := W.alloc (.cells #[.int .u8 b'] 5)) (want_none rfl) (by unfold execOp; dsimp only [Act.eval]; simp only [List.map_toArray, List.map_cons, List.map_nil, Act.eval, e95]; go_simp) (hK.out _ _ (hF.out.put (k := 13) (s := 96) rfl (by decide) hN (by decide) (fun u hu => by cases hu) ⟨W.heap.size, jr, fun _ => hb.trans (hbn.mono hb.size), fun _ => gd_eq (by rw [hF.out.size, hN]; decide), fun _ _ => heap_new W _, fun h => absurd h n16, fun h => absurd h n17⟩))
          | 14, _ =>
            obtain rfl := Option.some.inj ho
            have l13 : L 13 = true := dep_of hd (n := 13) (by decide)
            have n16 : ¬ L 16 = true := fun h => by have := (hc 15 14 (hc 16 15 h (by decide)) (by decide)); rw [hLi] at this; cases this
            obtain ⟨g1, jr, p0, pA, pB, pC, pD⟩ := hW.out
            have e96 := pA l13
            have hcv := conv_one W g1 b' (pB l13 (Bool.eq_false_iff.2 n16))
            clear hd ho hi hc hLi
            exact st_val (v := .string (bs [UInt8.ofNat b'])) (w' := W) (want_none rfl) (by unfold execOp; dsimp only [Act.eval]; simp only [e96]; go_simp) (hK.out _ _ (hF.out.put (k := 14) (s := 97) rfl (by decide) hN (by decide) (fun u_v hu => Option.some.inj (Option.some.inj (show some (some (.string (bs [UInt8.ofNat b']))) = some (some u_v) from hu))) (by dsimp only; rw [gd_ne (show 97 ≠ 96 by decide), gd_ne (show 97 ≠ 99 by decide), gd_ne (show 97 ≠ 6 by decide)]; exact hW.out)))
          | 15, _ =>
            obtain rfl := Option.some.inj ho
            have l3 : L 3 = true := dep_of hd (n := 3) (by decide)
            have e86 : T.getD 86 undef = .int .i64 j1 := hF.out.val 3 86 _ l3 rfl rfl
            have l6 : L 6 = true := dep_of hd (n := 6) (by decide)
            have e89 : T.getD 89 undef = .int .i64 j2 := hF.out.val 6 89 _ l6 rfl rfl
            have l9 : L 9 = true := dep_of hd (n := 9) (by decide)
            have e92 : T.getD 92 undef = .int .i64 j3 := hF.out.val 9 92 _ l9 rfl rfl
            have l14 : L 14 = true := dep_of hd (n := 14) (by decide)
            have e97 : T.getD 97 undef = .string (bs [UInt8.ofNat b']) := hF.out.val 14 97 _ l14 rfl rfl
            clear hd ho hi hc hLi
            exact st_val (v := .agg #[.int .i64 9, .int .i64 j1, .int .i64 j2, .int .i64 j3, .string (bs [UInt8.ofNat b'])]) (w' := W) (want_none rfl) (by unfold execOp; dsimp only [Act.eval]; simp only [List.map_toArray, List.map_cons, List.map_nil, Act.eval, e86, e89, e92, e97]; kernel_rfl) (hK.out _ _ (hF.out.put (k := 15) (s := 98) rfl (by decide) hN (by decide) (fun u_v hu => Option.some.inj (Option.some.inj (show some (some (.agg #[.int .i64 9, .int .i64 j1, .int .i64 j2, .int .i64 j3, .string (bs [UInt8.ofNat b'])])) = some (some u_v) from hu))) (by dsimp only; rw [gd_ne (show 98 ≠ 96 by decide), gd_ne (show 98 ≠ 99 by decide), gd_ne (show 98 ≠ 6 by decide)]; exact hW.out)))
          | 16, _ =>
            obtain rfl := Option.some.inj ho
            have l0 : L 0 = true := dep_of hd (n := 0) (by decide)
            have e83 : T.getD 83 undef = .pointer (some ⟨q, 0, none⟩) := hF.out.val 0 83 _ l0 rfl rfl
            have l15 : L 15 = true := dep_of hd (n := 15) (by decide)
            have e98 : T.getD 98 undef = .agg #[.int .i64 9, .int .i64 j1, .int .i64 j2, .int .i64 j3, .string (bs [UInt8.ofNat b'])] := hF.out.val 15 98 _ l15 rfl rfl
            have n17 : ¬ L 17 = true := fun h => by have := hc 17 16 h (by decide); rw [hLi] at this; cases this
            obtain ⟨g1, jr, p0, pA, pB, pC, pD⟩ := hW.out
            have hb := p0 hLi
            have cc := Lib.hid (cP.out W hb)
            clear hd ho hi hc
            refine st_call (want_none rfl) (by unfold execOp; go_simp) cc.out ?_
            rintro r w4 ⟨hr4, jr2, rfl⟩
            exact ⟨_, rfl, hK.out _ _ (hF.out.put (k := 16) (s := 99) rfl (by decide) hN (by decide) (fun u hu => by cases hu) ⟨g1, jr2, fun h => absurd h (by simp), fun h => (gd_ne (show 99 ≠ 96 by decide)).trans (pA h), fun _ h => absurd h (by simp), fun _ => ⟨gd_eq (by rw [hF.out.size, hN]; decide), hr4⟩, fun h => absurd h n17⟩)⟩
          | 17, _ =>
            obtain rfl := Option.some.inj ho
            have l16 : L 16 = true := dep_of hd (n := 16) (by decide)
            obtain ⟨g1, jr, p0, pA, pB, pC, pD⟩ := hW.out
            have e99 := (pC l16).1
            clear hd ho hi hc hLi
            exact st_val (v := .int .i64 jr) (w' := W) (want_none rfl) (by unfold execOp; dsimp only [Act.eval]; simp only [e99]; go_simp) (hK.out _ _ (hF.out.put (k := 17) (s := 6) rfl (by decide) hN (by decide) (fun u hu => by cases hu) ⟨g1, jr, p0, fun h => (gd_ne (show 6 ≠ 96 by decide)).trans (pA h), pB, fun h => ⟨(gd_ne (show 6 ≠ 99 by decide)).trans (pC h).1, (pC h).2⟩, fun _ => (gd_eq (by rw [hF.out.size, hN]; decide))⟩))
        case hdone =>
          intro L T W2 hF hW hall
          obtain ⟨g1, jr, -, pA, -, pC, pD⟩ := hW
          have e96 := pA (hall 13 (by decide))
          obtain ⟨e99, hfin⟩ := pC (hall 16 (by decide))
          have e6 := pD (hall 17 (by decide))
          replace hfin := Lib.hid hfin
          have hT : T = #[.pointer (some ⟨q, 0, none⟩), .int .i64 x, .int .i64 n, undef, undef, undef, .int .i64 jr, .pointer (some ⟨p1, 0, none⟩), .bool true, .slice (some ⟨bp, o9, none⟩) 3 cp, .tuple #[.agg (ndC 8 a b' s (.slice Av 3 cv)).toArray, .bool true], .pointer (some ⟨q, 0, none⟩), .pointer (some ⟨q, 0, none⟩), .pointer (some ⟨q, 0, none⟩), .pointer (some ⟨m, 0, none⟩), .pointer (some ⟨m, 0, none⟩), .pointer (some ⟨m, 0, none⟩), .pointer (some ⟨g, 0, none⟩), .int .i64 x, .tuple #[.agg (ndC 8 a b' s (.slice Av 3 cv)).toArray, .bool true], .agg (ndC 8 a b' s (.slice Av 3 cv)).toArray, .bool true, .pointer (some ⟨p1, 0, none⟩), .int .i64 8, .bool false, .bool false, undef, undef, undef, undef, undef, .bool false, .bool false, undef, undef, undef, undef, undef, .bool false, .bool false, undef, undef, undef, undef, .bool false, .bool false, undef, undef, undef, undef, undef, undef, undef, .pointer (some ⟨q, 0, none⟩), .pointer (some ⟨p1, 4, none⟩), .slice Av 3 cv, .int .i64 n, .slice (some ⟨bp, o9, none⟩) 3 cp, .pointer (some ⟨p1, 0, none⟩), .int .i64 8, .bool false, .bool false, undef, undef, undef, undef, undef, undef, .bool false, .bool false, undef, undef, undef, undef, undef, undef, undef, undef, undef, undef, undef, .bool true, .bool true, .pointer (some ⟨q, 0, none⟩), .slice (some ⟨bp, o9, none⟩) 3 cp, .pointer (some ⟨bp, o9, none⟩), .int .i64 j1, .slice (some ⟨bp, o9, none⟩) 3 cp, .pointer (some ⟨bp, o9 + 1, none⟩), .int .i64 j2, .slice (some ⟨bp, o9, none⟩) 3 cp, .pointer (some ⟨bp, o9 + 2, none⟩), .int .i64 j3, .pointer (some ⟨p1, 2, none⟩), .int .i64 b', .int .u8 b', .slice (some ⟨g1, 0, none⟩) 1 1, .string (bs [UInt8.ofNat b']), .agg #[.int .i64 9, .int .i64 j1, .int .i64 j2, .int .i64 j3, .string (bs [UInt8.ofNat b'])], .int .i64 jr, undef, undef, undef, undef, undef, undef, undef, undef, undef, undef, undef, undef, undef, undef, undef, undef, undef, undef, undef] := (hF.fin [(83, .pointer (some ⟨q, 0, none⟩)), (84, .slice (some ⟨bp, o9, none⟩) 3 cp), (85, .pointer (some ⟨bp, o9, none⟩)), (86, .int .i64 j1), (87, .slice (some ⟨bp, o9, none⟩) 3 cp), (88, .pointer (some ⟨bp, o9 + 1, none⟩)), (89, .int .i64 j2), (90, .slice (some ⟨bp, o9, none⟩) 3 cp), (91, .pointer (some ⟨bp, o9 + 2, none⟩)), (92, .int .i64 j3), (93, .pointer (some ⟨p1, 2, none⟩)), (94, .int .i64 b'), (95, .int .u8 b'), (96, .slice (some ⟨g1, 0, none⟩) 1 1), (97, .string (bs [UInt8.ofNat b'])), (98, .agg #[.int .i64 9, .int .i64 j1, .int .i64 j2, .int .i64 j3, .string (bs [UInt8.ofNat b'])]), (99, .int .i64 jr), (6, .int .i64 jr)] [83, 84, 85, 86, 87, 88, 89, 90, 91, 92, 93, 94, 95, 96, 97, 98, 99, 6] rfl (List.forall_mem_cons.2 ⟨hF.val 0 _ _ (hall 0 (show 0 < 18 by decide)) rfl rfl, (List.forall_mem_cons.2 ⟨hF.val 1 _ _ (hall 1 (show 1 < 18 by decide)) rfl rfl, (List.forall_mem_cons.2 ⟨hF.val 2 _ _ (hall 2 (show 2 < 18 by decide)) rfl rfl, (List.forall_mem_cons.2 ⟨hF.val 3 _ _ (hall 3 (show 3 < 18 by decide)) rfl rfl, (List.forall_mem_cons.2 ⟨hF.val 4 _ _ (hall 4 (show 4 < 18 by decide)) rfl rfl, (List.forall_mem_cons.2 ⟨hF.val 5 _ _ (hall 5 (show 5 < 18 by decide)) rfl rfl, (List.forall_mem_cons.2 ⟨hF.val 6 _ _ (hall 6 (show 6 < 18 by decide)) rfl rfl, (List.forall_mem_cons.2 ⟨hF.val 7 _ _ (hall 7 (show 7 < 18 by decide)) rfl rfl, (List.forall_mem_cons.2 ⟨hF.val 8 _ _ (hall 8 (show 8 < 18 by decide)) rfl rfl, (List.forall_mem_cons.2 ⟨hF.val 9 _ _ (hall 9 (show 9 < 18 by decide)) rfl rfl, (List.forall_mem_cons.2 ⟨hF.val 10 _ _ (hall 10 (show 10 < 18 by decide)) rfl rfl, (List.forall_mem_cons.2 ⟨hF.val 11 _ _ (hall 11 (show 11 < 18 by decide)) rfl rfl, (List.forall_mem_cons.2 ⟨hF.val 12 _ _ (hall 12 (show 12 < 18 by decide)) rfl rfl, (List.forall_mem_cons.2 ⟨e96, (List.forall_mem_cons.2 ⟨hF.val 14 _ _ (hall 14 (show 14 < 18 by decide)) rfl rfl, (List.forall_mem_cons.2 ⟨hF.val 15 _ _ (hall 15 (show 15 < 18 by decide)) rfl rfl, (List.forall_mem_cons.2 ⟨e99, (List.forall_mem_cons.2 ⟨e6, (fun _ h => absurd h List.not_mem_nil)⟩)⟩)⟩)⟩)⟩)⟩)⟩)⟩)⟩)⟩)⟩)⟩)⟩)⟩)⟩)⟩)⟩)⟩) (by decide)).trans (by kernel_rfl)
          clear hF hall
          subst hT
          go_wp2_with fail
          go_ret
          exact hfin.out
      · obtain ⟨u1, u2, rfl⟩ := two_l (show args.length = 2 by have := (ok_mk.1 hkh.out.1).1; unfold okHd at this; omega)
        obtain ⟨j1, j2, rfl⟩ := two_l (show js.length = 2 from hjlh.out)
        obtain ⟨bp, o9, rfl, hcs⟩ := ints_cells hI3h.out (by simp)
        have cP := Lib.hid (show ∀ W3, Below w3.heap.size w3 W3 → Calls Tryz.prog 103 #[.pointer (some ⟨q, 0, none⟩), .agg #[.int .i64 10, .int .i64 j1, .int .i64 j2, .int .i64 b', .string ⟨#[]⟩]] W3 (fun r W4 => CkR V1 wr m q bm Ls known sent (M - 1) 34 1 kl F (.mk 9 a b' s [u1, u2]) r W4 ∧ ∃ j : Nat, r = .returned (.int .i64 j)) from fun W3 hb3 =>
          Calls.mono (((hPh.out.ck [(j1, u1), (j2, u2)] (by
            intro p hp
            simp only [List.mem_cons, List.not_mem_nil, or_false] at hp
            rcases hp with rfl | rfl
            · exact ⟨0, rfl, rfl⟩
            · exact ⟨1, rfl, rfl⟩)).keep hb3).put_ hRh.out.1 hRh.out.2.2 (by decide) ⟨10, j1, j2, b', []⟩ (.mk 9 a b' s [u1, u2]) (fun made hm => st_seal (hm _ List.mem_cons_self) (hm _ (List.mem_cons_of_mem _ List.mem_cons_self)) hkh.out.1 hkh.out.2 rfl rfl) hkh.out.1 hkh.out.2 (by simp)) fun (r : Ending) (W4 : World) hr => by
              obtain ⟨j, e4, rfl, h2⟩ := hr
              exact ⟨hfrom.out _ _ (h2.done (by decide) (by simp)), j, rfl⟩)
        have d0 := (box_cells r3).1
        go_upto_region 20 with fail
        clear d0
        have hd1 : Below w3.heap.size w3 w3.drew := drewN_below 1
        obtain ⟨W5, hwd⟩ : ∃ W5, w3.drew = W5 := ⟨_, rfl⟩
        rw [hwd] at hd1
        have r5 := (hd1.block p1 (Array.getElem?_eq_some_iff.1 r3).1).trans r3
        obtain ⟨d0, d1, d2, d3, d4⟩ := box_cells r5
        have x0 := (hd1.cell (lt_of_cell (hcs 0 _ rfl))).trans (hcs 0 _ rfl)
        rw [Nat.add_zero] at x0
        have x1 := (hd1.cell (lt_of_cell (hcs 1 _ rfl))).trans (hcs 1 _ rfl)
        replace cP := Lib.hid (cP.out W5 hd1)
        clear hcs r3 r5 hPh hI3h hjlh hd1
        go_still_tail 10, (by kernel_rfl)
        change wpList _ _ _ _ _ w3.drew
        rw [hwd]
        clear hwd
        go_wp2_with (go_at_call 103; (with_reducible refine cP.out.mono ?_); rintro r w4 ⟨hfin, j, rfl⟩; replace hfin := Lib.hid hfin)
        go_ret
        exact hfin.out
end Go.Proofs.YtphnakdgpilcmaaGreatDoor
