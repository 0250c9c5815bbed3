/- Arenas: the end of put: what the arena is when the node has been appended and its key laid down. -/
import Derived.Test.YtifliohljcafgaaDoorDb0
import Derived.Maps.Views
namespace Go.Proofs.YtifliohljcafgaaDoor
open Go.RowKit Go.Maps

theorem Typ.no_map {w : World} {q b : Nat} {t : TypeId} {es : Array MapEntry} {cl : Nat} (h : Typ w q t) (hm : w.heap[b]? = some (.map es cl)) : q ≠ b := fun e => by
  subst e
  obtain ⟨c1, f1, e1⟩ := h
  rw [e1] at hm
  cases hm
theorem ids_app {L r : List Tm} : ∀ {xs : List Nat} {ts : List Tm}, xs.map (fun i => L[i]?) = ts.map some → xs.map (fun i => (L ++ r)[i]?) = ts.map some
  | [], _, h => by simpa using h
  | x :: xs, [], h => by simp at h
  | x :: xs, t :: ts, h => by
    simp only [List.map_cons, List.cons.injEq] at h ⊢
    exact ⟨by rw [List.getElem?_append_left (List.getElem?_eq_some_iff.1 h.1).1]; exact h.1, ids_app h.2⟩
theorem F19_typ {w : World} {B : Nat} {A : Ar} (H : Arena w B A) {b : Nat} (h : F19 A b) : Typ w b 61 ∨ Typ w b 66 ∨ Typ w b 3 := by
  rcases h with rfl | h | h
  · exact .inl ⟨_, _, H.blk⟩
  · exact .inr (.inl (H.nodes.typ h))
  · exact .inr (.inr (OwnR.typ H.sizes h))
theorem mapOk_put {D : DataW Unit} {N : List Nd} {x : Nd} {kl : Lit} (hD : IsMap D) (h : MapOk D N) (hkl : keyOf Tryd.prog 82 (keyV x.t x.xs) = some kl) (hf : ∀ (j : Nat) (y : Nd), N[j]? = some y → keyOf Tryd.prog 82 (keyV y.t y.xs) ≠ some kl) :
    MapOk (D.put kl (.lit (.int .i64 N.length))) (N ++ [x]) := by
  have hk : WideAt.IsKeyLit kl := sh_law.key hkl
  refine ⟨fun j y kl' hy hkl' => ?_, fun kl' hh => ?_⟩
  · rcases Nat.lt_or_ge j N.length with hlt | hge
    · rw [List.getElem?_append_left hlt] at hy
      have hne : kl' ≠ kl := fun e => hf j y hy (by rw [hkl', e])
      obtain ⟨h1, h2⟩ := h.1 j y kl' hy hkl'
      exact ⟨by rw [has_put_other hne]; exact h1, fun z => by rw [atKey_put_other hne]; exact h2 z⟩
    · rw [List.getElem?_append_right hge] at hy
      have hj : j = N.length := by
        have := (List.getElem?_eq_some_iff.1 hy).1
        simp at this
        omega
      subst hj
      simp at hy
      subst hy
      rw [hkl] at hkl'
      obtain rfl := Option.some.inj hkl'
      exact ⟨has_put_same hD hk _, fun z => atKey_put_same hD hk _ z⟩
  · by_cases e : kl' = kl
    · subst e
      exact ⟨N.length, x, by simp, hkl⟩
    · rw [has_put_other e] at hh
      obtain ⟨j, y, hy, hky⟩ := h.2 kl' hh
      exact ⟨j, y, by rw [List.getElem?_append_left (List.getElem?_eq_some_iff.1 hy).1]; exact hy, hky⟩
/-- The map stays through the appends. -/
theorem Q19.map7 {B : Nat} {A : Ar} {S : Nat} {NC : List Value} {gN : Nat} {W6 W : World} {x7 x8 x14 x15 : Value} (hQ : Q19 B A S NC gN W6 true true true true true true x7 x8 x14 x15 W) (H6 : Arena W6 B A) {D : DataW Unit}
    (hD : W6.ownsMap Tryd.prog 82 (plainElem Tryd.prog 35) A.bm A.N.length D) : W.ownsMap Tryd.prog 82 (plainElem Tryd.prog 35) A.bm A.N.length D := by
  obtain ⟨es, cl, hb, r⟩ := hD
  refine ⟨es, cl, (hQ.kp.block A.bm (Array.getElem?_eq_some_iff.1 hb).1 fun hf => ?_).trans hb, r⟩
  rcases F19_typ H6 hf with h | h | h <;> exact h.no_map hb rfl
theorem put_end {w W6 W7 W8 : World} {B : Nat} {A : Ar} {k a b S : Nat} {s : List UInt8} {ts : List Tm} {xs : List Nat} {v : Value} {gN : Nat} {x7 x8 x14 x15 : Value} {kl : Lit} {D : DataW Unit}
    (H : Arena w B A) (hB6 : Below w.heap.size w W6) (H6 : Arena W6 B A)
    (hQ : Q19 B A S [.int .i64 k, .int .i64 a, .int .i64 b, .string (bs s), v] gN W6 true true true true true true x7 x8 x14 x15 W7) (hI : IdsV W6 v xs) (hv : ∀ q, v.ownBlock = some q → w.heap.size ≤ q)
    (hD : W7.ownsMap Tryd.prog 82 (plainElem Tryd.prog 35) A.bm A.N.length D) (hDo : MapOk D A.N)
    (hown : W8.ownsMap Tryd.prog 82 (plainElem Tryd.prog 35) A.bm (A.N.length + 1) (D.put kl (.lit (.int .i64 A.N.length)))) (hk8 : Keeps (fun q => some A.bm = some q) W7 W8)
    (hkl : keyOf Tryd.prog 82 (keyV (.mk k a b s ts) xs) = some kl) (hf : ∀ (j : Nat) (y : Nd), A.N[j]? = some y → keyOf Tryd.prog 82 (keyV y.t y.xs) ≠ some kl)
    (hnew : Tm.mk k a b s ts ∉ A.L) (hok : (Tm.mk k a b s ts).ok) (hS : own k s.length + lens ts = S) (hS2 : S ≤ 131072) (hin : ∀ t ∈ ts, t ∈ A.L) (hxs : xs.map (fun i => A.L[i]?) = ts.map some) (hN : A.N.length < 100) :
    ∃ A', Grew w W8 B A A' (some (.mk k a b s ts)) ∧ Nm A'.L A.N.length (some (.mk k a b s ts)) := by
  have hlen : (Tm.mk k a b s ts).len = S := by rw [len_mk (ok_mk.1 hok).1, hS]
  obtain ⟨es, cl, hbm, hDr⟩ := hD
  have hD : W7.ownsMap Tryd.prog 82 (plainElem Tryd.prog 35) A.bm A.N.length D := ⟨es, cl, hbm, hDr⟩
  have hoff : ∀ {q : Nat} {t : TypeId}, Typ W7 q t → ¬ (some A.bm = some q) := fun ht e => ht.no_map hbm (Option.some.inj e).symm
  have hid6 : ∀ q cur fr, W6.heap[q]? = some (.cells cur 35 fr) → ¬ F19 A q := fun q cur fr hq hf => by
    have hT : Typ W6 q _ := ⟨_, _, hq⟩
    rcases F19_typ H6 hf with h | h | h
    · exact hT.ne h (by decide) rfl
    · exact hT.ne h (by decide) rfl
    · exact hT.ne h (by decide) rfl
  have hids : ∀ {v xs}, IdsV W6 v xs → IdsV W8 v xs := fun h => (h.keep hQ.kp hid6).keep hk8 (fun q cur fr hq => hoff ⟨_, _, hq⟩)
  have hLen : A.L.length = A.N.length := A.L_len
  let nd : Nd := ⟨.mk k a b s ts, v, xs⟩
  let A' : Ar := ⟨A.g, A.bm, x8, x15, A.N ++ [nd]⟩
  have hL : A'.L = A.L ++ [.mk k a b s ts] := by simp [A', nd, Ar.L]
  have hAt : A'.L[A.N.length]? = some (.mk k a b s ts) := by rw [hL, ← hLen]; simp
  have h8 : ∀ {E : TypeId} {j : Nat} {u : Value} {zs : List (List Value)}, OwnR W7 B j E u zs → OwnR W8 B j E u zs := fun h => h.keepF hk8 (fun q hq => hoff (h.typ hq))
  have hn1 := h8 (hQ.n1 rfl)
  have hs1 := h8 (hQ.s1 rfl)
  refine ⟨A', ⟨⟨?_, H.hg, H.hm, ?_, ?_, ⟨D.put kl (.lit (.int .i64 A.N.length)), ?_, ?_⟩, ?_, ?_, ?_, ?_⟩, rfl, .inr ⟨_, rfl, hnew, hL⟩, ?_, ?_⟩, ⟨by rw [get_nat]; exact hAt, fun h => by cases h⟩⟩
  · have hb := hQ.blk
    exact (hk8.block A.g (Array.getElem?_eq_some_iff.1 hb).1 (hoff ⟨_, _, hb⟩)).trans hb
  · show OwnR W8 B 5 _ x8 ((A.N ++ [nd]).map Nd.row)
    rw [List.map_append]
    exact hn1
  · show OwnR W8 B 1 _ x15 (((A.N ++ [nd]).map fun x => (x.t.len : Int)).map iv)
    rw [List.map_append, List.map_append]
    simp only [List.map_cons, List.map_nil, nd, hlen]
    exact hs1
  · show W8.ownsMap _ _ _ A.bm (A.N ++ [nd]).length _
    rw [List.length_append]
    exact hown
  · exact mapOk_put (hD.isMap) hDo hkl hf
  · intro x hx
    rcases List.mem_append.1 hx with hx | hx
    · exact hids (H6.ids x hx)
    · simp only [List.mem_singleton] at hx
      subst hx
      exact hids hI
  · intro x hx
    rw [hL]
    rcases List.mem_append.1 hx with hx | hx
    · exact ids_app (H.args x hx)
    · simp only [List.mem_singleton] at hx
      subst hx
      exact ids_app hxs
  · rw [hL]
    refine ⟨?_, ?_, ?_, ?_⟩
    · rw [List.nodup_append]
      exact ⟨H.good.once, (by simp), fun x hx y hy e => by simp only [List.mem_singleton] at hy; subst hy; subst e; exact hnew hx⟩
    · intro t ht
      rcases List.mem_append.1 ht with ht | ht
      · exact H.good.ok t ht
      · simp only [List.mem_singleton] at ht; subst ht; exact hok
    · intro t ht
      rcases List.mem_append.1 ht with ht | ht
      · exact H.good.size t ht
      · simp only [List.mem_singleton] at ht; subst ht; rw [hlen]; exact hS2
    · intro t ht u hu
      rcases List.mem_append.1 ht with ht | ht
      · exact List.mem_append.2 (.inl (H.good.clos t ht u hu))
      · simp only [List.mem_singleton] at ht; subst ht; exact List.mem_append.2 (.inl (hin u hu))
  · show (A.N ++ [nd]).length ≤ 100
    simp; omega
  · refine ((Keeps.of_below hB6).trans ((hQ.kp.mono (G := A.has) fun q _ hq => ?_).trans (hk8.mono (G := A.has) fun q _ hq => .inr (.inl (Option.some.inj hq).symm))))
    rcases hq with h | h | h
    · exact .inl h
    · exact .inr (.inr (.inl h))
    · exact .inr (.inr (.inr h))
  · intro x hx
    rcases List.mem_append.1 hx with hx | hx
    · exact .inl hx
    · simp only [List.mem_singleton] at hx
      subst hx
      exact .inr hv
end Go.Proofs.YtifliohljcafgaaDoor
