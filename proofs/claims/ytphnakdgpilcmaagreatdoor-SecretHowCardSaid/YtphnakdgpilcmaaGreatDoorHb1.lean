/- Arenas: the walk of put (printed by a program). -/
import Derived.Test.YtphnakdgpilcmaaGreatDoorHb0
import Derived.Maps.OwnOps
import Derived.Deep.DeepCutAuto
namespace Go.Proofs.YtphnakdgpilcmaaGreatDoor
open Go.RowKit Go.Maps

def ndV (k a b : Nat) (s : List UInt8) (v : Value) : Value := .agg #[.int .i64 k, .int .i64 a, .int .i64 b, .string (bs s), v]
def ndC (k a b : Nat) (s : List UInt8) (v : Value) : List Value := [.int .i64 k, .int .i64 a, .int .i64 b, .string (bs s), v]
theorem nd_zero : (Tryz.prog.info? 52).bind (·.zero) = some (.agg #[.int .i64 0, .int .i64 0, .int .i64 0, .string ⟨#[]⟩, .slice none 0 0]) := by kernel_rfl
theorem nd_info : (Tryz.prog.info? 52).map (fun i => (i.zero, i.size, i.bytes)) = some (some (.agg #[.int .i64 0, .int .i64 0, .int .i64 0, .string ⟨#[]⟩, .slice none 0 0]), 5, 64) := by kernel_rfl
theorem alls_snoc {l : List (Option Tm)} {o : Option Tm} : alls (l ++ [o]) = match alls l, o with | some ts, some t => some (ts ++ [t]) | _, _ => none := by
  induction l with
  | nil => cases o <;> rfl
  | cons x r ih =>
    cases x with
    | none => rfl
    | some t =>
      rw [List.cons_append, alls, ih, alls]
      cases alls r with
      | none => rfl
      | some ts => cases o <;> rfl
theorem lens_snoc (ts : List Tm) (t : Tm) : lens (ts ++ [t]) = lens ts + t.len := by simp [lens]
theorem tlens_le {ts : List Tm} {M : Nat} (h : ∀ t ∈ ts, t.len ≤ M) : lens ts ≤ ts.length * M := by
  induction ts with
  | nil => simp [lens]
  | cons t r ih =>
    have h1 := h t (by simp)
    have h2 := ih (fun u hu => h u (by simp [hu]))
    have : lens (t :: r) = t.len + lens r := by simp [lens]
    rw [this, List.length_cons, Nat.add_mul, Nat.one_mul]
    omega
/-- What put leaves. -/
def PutR (w : World) (B : Nat) (A : Ar) (o : Option Tm) (r : Ending) (w' : World) : Prop := ∃ A' x, r = .returned (.int .i64 x) ∧ Grew w w' B A A' o ∧ Nm A'.L x o
theorem Grew.none_ {w w' : World} {B : Nat} {A : Ar} (h : Arena w B A) (hb : Below w.heap.size w w') : Grew w w' B A A none :=
  ⟨h.keep hb, rfl, .inl ⟨rfl, fun t ht => by cases ht⟩, Keeps.of_below hb, fun _ hx => .inl hx, rfl⟩
theorem PutR.none_ {w w' : World} {B : Nat} {A : Ar} {o : Option Tm} (h : Arena w B A) (hb : Below w.heap.size w w') (ho : o = none) : PutR w B A o (.returned (.int .i64 (-1))) w' := by
  subst ho
  exact ⟨A, -1, rfl, Grew.none_ h hb, Nm.none_ _⟩

/-- Region 13 of put: what each slot holds. -/
def P13 (g k a b : Nat) (s J : List UInt8) (v : Value) (i : Nat) (x : Value) : Prop := match i with
  | 0 => x = .pointer (some ⟨g, 0, none⟩)
  | 1 => x = .int .i64 k
  | 2 => x = .pointer (some ⟨g, 1, none⟩)
  | 3 => x = .int .i64 a
  | 4 => x = .pointer (some ⟨g, 2, none⟩)
  | 5 => x = .int .i64 b
  | 6 => x = .pointer (some ⟨g, 3, none⟩)
  | 7 => x = .string (bs s)
  | 8 => x = .pointer (some ⟨g, 4, none⟩)
  | 9 => x = v
  | 10 => x = .string (bs J)
  | 11 => x = .agg #[.int .i64 k, .int .i64 a, .int .i64 b, .string (bs s), .string (bs J)]
  | _ => True
theorem P13_step {g k a b : Nat} {s J : List UInt8} {v : Value} {L : Nat → Bool} {xs : List Value} {i : Nat} {x' : Value} (h : ∀ j, L j = true → P13 g k a b s J v j (xs.getD j undef)) (hn : P13 g k a b s J v i x') (hi : i < xs.length) :
    ∀ j, (j == i || L j) = true → P13 g k a b s J v j ((xs.set i x').getD j undef) := by
  intro j hj
  by_cases e : j = i
  · subst e
    rw [List.getD_eq_getElem?_getD, List.getElem?_set_self hi]
    exact hn
  · have hL : L j = true := by simpa [e] using hj
    rw [List.getD_eq_getElem?_getD, List.getElem?_set_ne (Ne.symm e), ← List.getD_eq_getElem?_getD]
    exact h j hL
theorem sh_zero : (Tryz.prog.info? 142).bind (·.zero) = some (.agg #[.int .i64 0, .int .i64 0, .int .i64 0, .string ⟨#[]⟩, .string ⟨#[]⟩]) := by kernel_rfl
/-- What all orders of region 13 keep. -/
def I13 (F : Value → Value → Value → Value → Value → Value → Value → Value → Value → Value → Value → Value → Value → Array Value) (g k a b : Nat) (s J : List UInt8) (v : Value) (w1 : World) (L : Nat → Bool) (ac : Act) (W : World) : Prop :=
  ∃ x0 x1 x2 x3 x4 x5 x6 x7 x8 x9 x10 x11 x12, ac = ⟨F x0 x1 x2 x3 x4 x5 x6 x7 x8 x9 x10 x11 x12, []⟩ ∧ (∀ j, L j = true → P13 g k a b s J v j ([x0, x1, x2, x3, x4, x5, x6, x7, x8, x9, x10, x11].getD j undef)) ∧ (L 13 = true → L 12 = true) ∧
    (L 12 = true → ∃ g8, x12 = .pointer (some ⟨g8, 0, none⟩) ∧ w1.heap.size ≤ g8 ∧ (L 13 = false → W.heap[g8]? = some (.cells #[.int .i64 0, .int .i64 0, .int .i64 0, .string ⟨#[]⟩, .string ⟨#[]⟩] 142 (0, 0))) ∧ (L 13 = true → W.heap[g8]? = some (.cells #[.int .i64 k, .int .i64 a, .int .i64 b, .string (bs s), .string (bs J)] 142 (0, 0)))) ∧ Below w1.heap.size w1 W
noncomputable def stS (a : Addr) (v : Value) : Sem Unit := storeVar 142 a v
theorem stS_eq (a : Addr) (v : Value) : storeVar 142 a v = stS a v := rfl
theorem stS_run (w : World) (g : Nat) (old cells : Array Value) (hg : w.heap[g]? = some (.cells old 142 (0, 0))) (ho : old.size = cells.size) (h1 : cells.all (·.oneCell') = true) (h8 : cells.size = 5) :
    (stS ⟨g, 0, none⟩ (.agg cells)).run Tryz.prog w = .ok () (w.setRow g cells) :=
  run_storeVar_row w g 142 142 old cells hg (by rw [h8]; kernel_rfl) ho h1
theorem hsetRow_ {w : World} {g : Nat} {old cs : Array Value} {t : TypeId} {fr : Nat × Nat} (h : w.heap[g]? = some (.cells old t fr)) : (w.setRow g cs).heap[g]? = some (.cells cs t fr) := by
  simp only [World.setRow, Array.getElem?_modify, if_true, h, Option.map_some]
theorem below_setRow_ {B g : Nat} {w w' : World} (h : Below B w w') (hg : B ≤ g) (cs : Array Value) : Below B w (w'.setRow g cs) := by
  have e : ∀ k, k < B → (w'.setRow g cs).heap[k]? = w'.heap[k]? := fun k hk => by simp only [World.setRow, Array.getElem?_modify, if_neg (show g ≠ k by omega)]
  exact ⟨h.1, h.2, h.3, by simpa [World.setRow] using h.4, fun k hk => (e k hk).trans (h.5 k hk)⟩
/-- Numbers that all name terms are those of an arena. -/
theorem ids_of {A : Ar} {ys : List Int} {ts : List Tm} (h : ys.map (get A.L) = ts.map some) : ∃ xs : List Nat, ys = xs.map (fun (i : Nat) => (i : Int)) ∧ (∀ x ∈ xs, x < A.N.length) ∧ xs.map (fun i => A.L[i]?) = ts.map some := by
  induction ys generalizing ts with
  | nil =>
    refine ⟨[], rfl, by simp, ?_⟩
    simpa using h
  | cons y r ih =>
    cases ts with
    | nil => simp at h
    | cons t ts =>
      simp only [List.map_cons, List.cons.injEq] at h
      obtain ⟨q, rfl, hq⟩ := get_some h.1
      obtain ⟨xs, rfl, h1, h2⟩ := ih h.2
      have hl := (List.getElem?_eq_some_iff.1 hq).1
      rw [A.L_len] at hl
      refine ⟨q :: xs, rfl, fun x hx => ?_, by simp only [List.map_cons, hq, h2]⟩
      rcases List.mem_cons.1 hx with rfl | hx
      · exact hl
      · exact h1 x hx
theorem iv_idv (xs : List Nat) : (xs.map fun (i : Nat) => (i : Int)).map iv = xs.map idv := by rw [List.map_map]; rfl
noncomputable def ldS (a : Addr) : Sem Value := loadVar 142 a
theorem ldS_eq (a : Addr) : loadVar 142 a = ldS a := rfl
theorem ldS_run {w : World} {g : Nat} {cs : Array Value} (h : w.heap[g]? = some (.cells cs 142 (0, 0))) (h5 : cs.size = 5) : (ldS ⟨g, 0, none⟩).run Tryz.prog w = .ok (.agg cs) w := by
  unfold ldS
  exact run_loadVar_row (P := Tryz.prog) w g 142 142 cs (0, 0) _ h Tryz.underlying142 rfl (by rw [h5]; kernel_rfl)
theorem id_zero (w : World) : (zeroValue 33).run Tryz.prog w = .ok (.int .i64 0) w := by rw [Tryz.zeroValue33]
/-- What a look-up tells. -/
theorem Arena.look {w : World} {B : Nat} {A : Ar} (H : Arena w B A) {kv : Value} {kl : Lit} (hkey : keyOf Tryz.prog 142 kv = some kl) :
    ∃ (f : Bool) (c : Int), (∀ q, (Instr.lookup 60 (.map (some A.bm)) kv true).run Tryz.prog (w.drewN q) = .ok (.tuple #[.int .i64 c, .bool f]) (w.drewN q)) ∧
      (f = true → ∃ (j : Nat) (x : Nd), A.N[j]? = some x ∧ c = j ∧ keyOf Tryz.prog 142 (keyV x.t x.xs) = some kl) ∧ (f = false → ∀ (j : Nat) (x : Nd), A.N[j]? = some x → keyOf Tryz.prog 142 (keyV x.t x.xs) ≠ some kl) := by
  obtain ⟨D, hD, hDo⟩ := H.map
  have hl : ∀ q, ∃ c : Int, (Instr.lookup 60 (.map (some A.bm)) kv true).run Tryz.prog (w.drewN q) = .ok (.tuple #[.int .i64 c, .bool (Maps.has D kl)]) (w.drewN q) ∧ D.atKey kl (.lit (.int .i64 0)) = .lit (.int .i64 c) := fun q => by
    have hDq : (w.drewN q).ownsMap Tryz.prog 142 (plainElem Tryz.prog 33) A.bm A.N.length D := hD
    obtain ⟨v, ps, hrun, hv⟩ := hDq.look_ok sh_law Tryz.underlying60 (id_zero _) (zd := .lit (.int .i64 0)) (zp := []) (plainElem_int Tryz.underlying33 (by decide)) hkey
    obtain ⟨c, rfl, hc, _⟩ := plainElem_int_inv Tryz.underlying33 hv
    simp only [Prod.mk.injEq] at hc
    exact ⟨c, hrun, hc.1⟩
  obtain ⟨c0, _, hc0⟩ := hl 0
  refine ⟨Maps.has D kl, c0, fun q => ?_, fun hf => ?_, fun hf j x hx hk => ?_⟩
  · obtain ⟨c, hr, hc⟩ := hl q
    rw [hc0] at hc
    rw [(Lit.int.inj (DataW.lit.inj hc)).2]; exact hr
  · obtain ⟨j, x, hx, hk⟩ := hDo.2 kl hf
    refine ⟨j, x, hx, ?_, hk⟩
    have := (hDo.1 j x kl hx hk).2 (.lit (.int .i64 0))
    rw [hc0] at this
    exact (Lit.int.inj (DataW.lit.inj this)).2
  · rw [(hDo.1 j x kl hx hk).1] at hf; cases hf
theorem map_ids_inj {L : List Tm} (hn : L.Nodup) : ∀ {xs ys : List Nat} {ts : List Tm}, xs.map (fun i => L[i]?) = ts.map some → ys.map (fun i => L[i]?) = ts.map some → xs = ys
  | [], [], _, _, _ => rfl
  | [], y :: ys, ts, h1, h2 => by cases ts <;> simp at h1 h2
  | x :: xs, [], ts, h1, h2 => by cases ts <;> simp at h1 h2
  | x :: xs, y :: ys, [], h1, _ => by simp at h1
  | x :: xs, y :: ys, t :: ts, h1, h2 => by
    simp only [List.map_cons, List.cons.injEq] at h1 h2
    rw [once_inj hn h1.1 h2.1, map_ids_inj hn h1.2 h2.2]
/-- A key tells the term. -/
theorem Arena.key_inj {w : World} {B : Nat} {A : Ar} (H : Arena w B A) {k a b : Nat} {s : List UInt8} {ts : List Tm} {xs : List Nat} (hx : ∀ i ∈ xs, i < A.N.length) (hxs : xs.map (fun i => A.L[i]?) = ts.map some) {kl : Lit} (hkey : keyOf Tryz.prog 142 (keyV (.mk k a b s ts) xs) = some kl)
    {j : Nat} {x : Nd} (hj : A.N[j]? = some x) (hk : keyOf Tryz.prog 142 (keyV x.t x.xs) = some kl) : x.t = .mk k a b s ts := by
  have hv := sh_law.inj hk hkey
  have hm := List.mem_of_getElem? hj
  have ha := H.args x hm
  have hf := H.few
  have hN : ∀ i ∈ x.xs, i < 100 := fun i hi => by
    have : A.L[i]? ∈ x.t.args.map some := by rw [← ha]; exact List.mem_map.2 ⟨i, hi, rfl⟩
    rw [List.mem_map] at this
    obtain ⟨t, _, ht⟩ := this
    have := (List.getElem?_eq_some_iff.1 ht.symm).1
    rw [A.L_len] at this
    omega
  obtain ⟨⟨k', a', b', s', ts'⟩, v, ys⟩ := x
  unfold keyV at hv
  simp only [Value.agg.injEq, Array.mk.injEq, List.cons.injEq, Value.int.injEq, Value.string.injEq, true_and, and_true, Tm.kind, Tm.a, Tm.b, Tm.s] at hv
  obtain ⟨e1, e2, e3, e4, e5⟩ := hv
  have e5 := joinL_inj _ _ hN (fun i hi => by have := hx i hi; omega) (bs_inj e5)
  have e4 := bs_inj e4
  simp only at e5 ha
  subst e5 e4
  have e6 : ts' = ts := by
    have h2 : (Tm.mk k' a' b' s' ts').args.map some = ts.map some := ha.symm.trans hxs
    have := congrArg alls h2
    rw [alls_map, alls_map] at this
    exact Option.some.inj this
  subst e6
  rw [show k' = k by omega, show a' = a by omega, show b' = b by omega]
theorem Arena.key_none {w : World} {B : Nat} {A : Ar} (H : Arena w B A) {k a b : Nat} {s : List UInt8} {ts : List Tm} {xs : List Nat} (hxs : xs.map (fun i => A.L[i]?) = ts.map some) {kl : Lit} (hkey : keyOf Tryz.prog 142 (keyV (.mk k a b s ts) xs) = some kl)
    (hn : ∀ (j : Nat) (x : Nd), A.N[j]? = some x → keyOf Tryz.prog 142 (keyV x.t x.xs) ≠ some kl) : Tm.mk k a b s ts ∉ A.L := fun hm => by
  obtain ⟨j, hj⟩ := List.getElem?_of_mem hm
  obtain ⟨x, hx, e⟩ := Ar.N_at hj
  have ha := H.args x (List.mem_of_getElem? hx)
  rw [e] at ha
  have := map_ids_inj H.good.once ha hxs
  apply hn j x hx
  rw [e, this]
  exact hkey
theorem okHd_num {k a b : Nat} {s : List UInt8} {m : Nat} (h : okHd k a b s m) : k ≤ 10 ∧ a ≤ 4294967295 ∧ b ≤ 4294967295 ∧ s.length ≤ 131072 := by
  unfold okHd at h
  rcases h with h | h | h | h | h | h | h | h | h | h
  · obtain ⟨rfl, rfl, rfl, _, h⟩ := h; exact ⟨by decide, by decide, by decide, h⟩
  · obtain ⟨rfl, h1, h2, rfl, _⟩ := h; exact ⟨by decide, by omega, by omega, by simp⟩
  · obtain ⟨rfl, h1, rfl, rfl, _⟩ := h; exact ⟨by decide, by omega, by decide, by simp⟩
  · obtain ⟨rfl, rfl, rfl, rfl, _⟩ := h; exact ⟨by decide, by decide, by decide, by simp⟩
  · obtain ⟨rfl, rfl, rfl, _, h, _⟩ := h; exact ⟨by decide, by decide, by decide, by omega⟩
  · obtain ⟨rfl, rfl, rfl, _, h, _⟩ := h; exact ⟨by decide, by decide, by decide, by omega⟩
  · obtain ⟨rfl, rfl, rfl, rfl, _⟩ := h; exact ⟨by decide, by decide, by decide, by simp⟩
  · obtain ⟨rfl, rfl, h, rfl, _⟩ := h; exact ⟨by decide, by decide, by omega, by simp⟩
  · obtain ⟨rfl, rfl, h, rfl, _⟩ := h; exact ⟨by decide, by decide, by omega, by simp⟩
  · obtain ⟨rfl, rfl, rfl, rfl, _⟩ := h; exact ⟨by decide, by decide, by decide, by simp⟩
theorem i64min : IntKind.i64.min = -9223372036854775808 := by decide
theorem i64max : IntKind.i64.max = 9223372036854775807 := by decide
theorem key_ok {k a b m : Nat} {s J : List UInt8} (h : okHd k a b s m) (hJ : J.length ≤ 1000) : allOk shDs [.int .i64 k, .int .i64 a, .int .i64 b, .string (bs s), .string (bs J)] := by
  obtain ⟨h1, h2, h3, h4⟩ := okHd_num h
  refine ⟨rfl, fun i d v hd hv => ?_⟩
  have z1 := bs_size s
  have z2 := bs_size J
  match i with
  | 0 => injection hd with hd; injection hv with hv; subst hd hv; exact ⟨_, rfl, by rw [i64min]; omega, by rw [i64max]; omega⟩
  | 1 => injection hd with hd; injection hv with hv; subst hd hv; exact ⟨_, rfl, by rw [i64min]; omega, by rw [i64max]; omega⟩
  | 2 => injection hd with hd; injection hv with hv; subst hd hv; exact ⟨_, rfl, by rw [i64min]; omega, by rw [i64max]; omega⟩
  | 3 => injection hd with hd; injection hv with hv; subst hd hv; exact ⟨_, rfl, by unfold maxLen; omega⟩
  | 4 => injection hd with hd; injection hv with hv; subst hd hv; exact ⟨_, rfl, by unfold maxLen; omega⟩
  | i + 5 => simp [shDs] at hd
theorem ar_L_at {A : Ar} {j : Nat} {x : Nd} {t : Tm} (h : A.N[j]? = some x) (ht : x.t = t) : A.L[j]? = some t := by rw [← ht]; exact Ar.L_at h
/-- A cell of a block that is none of the arena's. -/
theorem arena_set {w W : World} {B : Nat} {A : Ar} (h0 : Arena w B A) (h : Arena W B A) {g : Nat} (hg : w.heap.size ≤ g) (i : Nat) (v : Value) {cs : Array Value} (hN : W.heap[g]? = some (.cells cs 52 (0, 0))) : Arena (W.setCell ⟨g, i, none⟩ v) B A :=
  h.keepF (F := fun q => some g = some q) (Keeps.of_grown (grown_set W ⟨g, i, none⟩ v) fun q hq => hq) (fun b hb hf => by injection hf with hf; subst hf; have := (h0.has_ge hb).2; omega)
    (fun b cur fr hb hf => (show Typ W b _ from ⟨_, _, hb⟩).ne (show Typ W b 52 by injection hf with hf; subst hf; exact ⟨_, _, hN⟩) (by decide) rfl)
theorem nat_wf {n : Nat} (h : n ≤ 1000000) : (Lit.int .i64 (n : Int)).wf = true := by
  have h1 := i64min
  have h2 := i64max
  simp only [Lit.wf, Bool.and_eq_true, decide_eq_true_eq]
  omega
/-- Region 19 of put: what each slot holds. -/
def P19 (A : Ar) (S : Nat) (NC : List Value) (i : Nat) (x : Value) : Prop := match i with
  | 0 => x = .pointer (some ⟨A.g, 0, none⟩)
  | 1 => x = .pointer (some ⟨A.g, 0, none⟩)
  | 2 => x = .pointer (some ⟨A.g, 0, none⟩)
  | 3 => x = .pointer (some ⟨A.g, 0, none⟩)
  | 4 => x = .pointer (some ⟨A.g, 0, none⟩)
  | 5 => x = A.vn
  | 6 => x = .agg NC.toArray
  | 9 => x = .pointer (some ⟨A.g, 0, none⟩)
  | 10 => x = .pointer (some ⟨A.g, 0, none⟩)
  | 11 => x = .pointer (some ⟨A.g, 1, none⟩)
  | 12 => x = A.vs
  | 13 => x = .int .i64 S
  | 16 => x = .pointer (some ⟨A.g, 0, none⟩)
  | 17 => x = .pointer (some ⟨A.g, 0, none⟩)
  | 19 => x = .pointer (some ⟨A.g, 0, none⟩)
  | 20 => x = .pointer (some ⟨A.g, 1, none⟩)
  | _ => True
theorem P19_step {A : Ar} {S : Nat} {NC : List Value} {L : Nat → Bool} {xs : List Value} {i : Nat} {x' : Value} (h : ∀ j, L j = true → P19 A S NC j (xs.getD j undef)) (hn : P19 A S NC i x') (hi : i < xs.length) :
    ∀ j, (j == i || L j) = true → P19 A S NC j ((xs.set i x').getD j undef) := by
  intro j hj
  by_cases e : j = i
  · subst e
    rw [List.getD_eq_getElem?_getD, List.getElem?_set_self hi]
    exact hn
  · have hL : L j = true := by simpa [e] using hj
    rw [List.getD_eq_getElem?_getD, List.getElem?_set_ne (Ne.symm e), ← List.getD_eq_getElem?_getD]
    exact h j hL
theorem P19_pass {A : Ar} {S : Nat} {NC : List Value} {L : Nat → Bool} {xs : List Value} {i : Nat} (h : ∀ j, L j = true → P19 A S NC j (xs.getD j undef)) (hn : ∀ x, P19 A S NC i x) : ∀ j, (j == i || L j) = true → P19 A S NC j (xs.getD j undef) := by
  intro j hj
  by_cases e : j = i
  · subst e; exact hn _
  · exact h j (by simpa [e] using hj)
/-- What all orders of region 19 keep. -/
def I19 (F : Value → Value → Value → Value → Value → Value → Value → Value → Value → Value → Value → Value → Value → Value → Value → Value → Value → Value → Value → Value → Array Value) (B : Nat) (A : Ar) (S : Nat) (NC : List Value) (gN : Nat) (W6 : World) (L : Nat → Bool) (ac : Act) (W : World) : Prop :=
  ∃ x0 x1 x2 x3 x4 x5 x6 x7 x8 x9 x10 x11 x12 x13 x14 x15 x16 x17 x19 x20, ac = ⟨F x0 x1 x2 x3 x4 x5 x6 x7 x8 x9 x10 x11 x12 x13 x14 x15 x16 x17 x19 x20, []⟩ ∧ (∀ j, L j = true → P19 A S NC j ([x0, x1, x2, x3, x4, x5, x6, x7, x8, x9, x10, x11, x12, x13, x14, x15, x16, x17, undef, x19, x20].getD j undef)) ∧ Q19 B A S NC gN W6 (L 7) (L 8) (L 14) (L 15) (L 18) (L 21) x7 x8 x14 x15 W ∧ (L 5 = false → L 18 = false) ∧ (L 12 = false → L 21 = false)
noncomputable def ldN (a : Addr) : Sem Value := loadVar 52 a
theorem ldN_eq (a : Addr) : loadVar 52 a = ldN a := rfl
theorem ldN_run {w : World} {g : Nat} {cs : Array Value} (h : w.heap[g]? = some (.cells cs 52 (0, 0))) (h5 : cs.size = 5) : (ldN ⟨g, 0, none⟩).run Tryz.prog w = .ok (.agg cs) w := by
  unfold ldN
  exact run_loadVar_row (P := Tryz.prog) w g 52 52 cs (0, 0) _ h Tryz.underlying52 rfl (by rw [h5]; kernel_rfl)
section
variable {P : Program} {ops : Array Oper} {Q : Exit → Act → World → Prop} {a : Act} {w w' : World} {o : Oper} {K : Act → World → Prop}
theorem wp_val_ {v : Value} (hw : Region.wanted o (yielded ops a.tmps) = true) (hrun : (execOp a.eval o).run P w = .ok (.value v) w') (h : K (a.put o.dst v) w') : if Region.wanted o (yielded ops a.tmps) = true then Oper.wp P o a w K Q else K (a.put o.dst undef) w := by
  rw [if_pos hw]
  unfold Oper.wp
  rw [hrun]
  exact h
theorem wp_on_ (hw : Region.wanted o (yielded ops a.tmps) = true) (h : Oper.wp P o a w K Q) : if Region.wanted o (yielded ops a.tmps) = true then Oper.wp P o a w K Q else K (a.put o.dst undef) w := by
  rw [if_pos hw]
  exact h
theorem run_buildSlice_ (t e : TypeId) (len : Nat) (parts : Array (Nat × Operand)) (ho : o.op = .buildSlice t len parts) (i : TypeInfo) (z : Value) (cells : Array Value)
    (ht : P.underlying t = some (.slice e)) (hi : P.info? e = some i) (hz : i.zero = some z) (hpos : len * i.size ≠ 0) (hsmall : len * i.size ≤ 16777216)
    (hf : Instr.fill (fun j => some (j * i.size, i.size)) ((Array.range (len * i.size)).map (z.cells[· % z.cells.size]!)) (parts.toList.map fun x => (x.1, a.eval x.2)) = some cells) :
    (execOp a.eval o).run P w = .ok (.value (.slice (some ⟨w.heap.size, 0, none⟩) len len)) (w.alloc (.cells cells e)) := by
  have hf' : Instr.fill (fun j => some (j * i.size, i.size)) ((Array.range (len * i.size)).map (z.cells[· % z.cells.size]!)) (parts.map fun (j, x) => (j, a.eval x)).toList = some cells := by
    rw [← hf]; simp
  have htI : ∀ w, (typeInfo e).run P w = .ok i w := fun w => by simp [typeInfo, hi]
  have hsz : ∀ w, (sizeOf e).run P w = .ok i.size w := fun w => by unfold sizeOf; rw [Sem.run_bind, htI]; simp
  have hzv : ∀ w, (zeroValue e).run P w = .ok z w := fun w => by unfold zeroValue; rw [Sem.run_bind, htI]; simp [hz]
  have hb : (Instr.buildSlice t len (parts.map fun (j, x) => (j, a.eval x))).run P w = .ok (.slice (some ⟨w.heap.size, 0, none⟩) len len) (w.alloc (.cells cells e)) := by
    unfold Instr.buildSlice
    rw [Sem.run_bind, run_underlying ht w, Result.andThen_ok]
    simp only [Sem.run_bind, hsz, Result.andThen_ok, show (2 : Nat) ^ 24 = 16777216 from rfl, if_neg (show ¬ len * i.size > 16777216 by omega), if_neg hpos, hzv, Sem.run_pure, hf', newRow, run_newObj_alloc]
  unfold execOp
  simp only [ho, Sem.run_bind, hb, Result.andThen_ok, Sem.run_pure]
end
theorem nd_one {k a b : Nat} {s : List UInt8} {A : Option Addr} {m c : Nat} : ∀ u ∈ ndC k a b s (.slice A m c), u.oneCell' = true := by
  intro u hu
  simp only [ndC, List.mem_cons, List.not_mem_nil, or_false] at hu
  rcases hu with rfl | rfl | rfl | rfl | rfl <;> rfl
attribute [local go_sem ↓] stS_eq ldS_eq ldN_eq
set_option maxRecDepth 100000 in
set_option maxHeartbeats 16000000 in
theorem put_any (A : Ar) (B : Nat) (k a b : Nat) (s : List UInt8) (ys : List Int) (Aa : Option Addr) (m c : Nat) (w : World) (H : Arena w B A) (hB : B ≤ w.heap.size) (hN : A.N.length < 100) (hs : s.length ≤ 4000000000) (hm : m ≤ 40) (hY : Ints w Aa m ys)
    (hok : okO (mkO k a b s (ys.map (get A.L)))) :
    Calls Tryz.prog 48 #[.pointer (some ⟨A.g, 0, none⟩), ndV k a b s (.slice Aa m c)] w (PutR w B A (mkO k a b s (ys.map (get A.L)))) := by
  have hyl := hY.len
  have hB1 := Lib.hid (below_new w (.cells (ndC k a b s (.slice Aa m c)).toArray 52))
  have hR := Lib.hid (rangeAt_list (heap_new w (.cells (ndC k a b s (.slice Aa m c)).toArray 52)))
  have cO := Lib.hid (fun W => own_any k (.int .i64 a) (.int .i64 b) s (.slice Aa m c) W hs rfl rfl rfl)
  have hHH := Lib.hid H
  have hN99 := Lib.hid hN
  unfold ndV
  go_enter Tryz.func48, Tryz.ntmps48
  go_wp2_with (first
    | (refine wpList_box_row 52 _ rfl rfl (ndC k a b s (.slice Aa m c)).toArray rfl ?_)
    | (refine wpList_load_at 52 (.tmp 3) rfl rfl w.heap.size 0 rfl (ndC k a b s (.slice Aa m c)) _ hR.out Tryz.underlying52 rfl (by kernel_rfl) ?_)
    | (go_at_call 91; refine (cO.out _).mono ?_; rintro r w1 ⟨rfl, hb1⟩
       have hB2 := Lib.hid (hB1.out.trans (hb1.mono hB1.out.size))
       have hR1 := Lib.hid (rangeAt_keep hR.out hb1 (by simp))
       have hc4 : w1.cell? ⟨w.heap.size, 0 + 4, none⟩ = some (.slice Aa m c) := hR1.out 4 _ rfl
       simp only [Nat.zero_add] at hc4
       have hgN0 : w.heap.size < w1.heap.size := Nat.lt_of_lt_of_le (by simp) hb1.size
       have hN1 := Lib.hid ((hb1.block w.heap.size (by simp)).trans (heap_new w (.cells (ndC k a b s (.slice Aa m c)).toArray 52)))
       clear hb1))
  have hL := A.L_len
  have hA1 := Lib.hid (hHH.out.keep hB2.out)
  have cH := Lib.hid (fun x => has_any A B x w1 hA1.out)
  obtain ⟨An, cn, As, cs, e1, e2, c0, c1, c2, h1, h2⟩ := hA1.out.open_
  have hown : own k s.length ≤ 4000000009 := by unfold own; split <;> (try split) <;> (try split) <;> (try split) <;> omega
  have e1h := Lib.hid e1
  have e2h := Lib.hid e2
  clear e1 e2
  have hsz := Lib.hid (fun t (ht : t ∈ A.L) => hHH.out.good.size t ht)
  clear hN
  go_loop [5, 19] (fun sz i => ∃ j : Nat, j ≤ m ∧ i = .int .i64 j ∧ ∃ ts : List Tm, Hid ((ys.take j).map (get A.L) = ts.map some) ∧ Hid (∀ t ∈ ts, t ∈ A.L) ∧ sz = .int .i64 (own k s.length + lens ts : Nat)) (fun _ i => m - (intOf i).toNat)
  case atStart => exact ⟨0, by omega, rfl, [], by simp [Hid], by simp [Hid], by simp [lens]⟩
  case round =>
    obtain ⟨j, hj, rfl, ts, hts, hin, rfl⟩ := hrel
    rename_i hw
    clear hw
    by_cases hlt : j < m
    · obtain ⟨ba, offa, y, rfl, hba, hy, hcy⟩ := (hY.keep hB2.out).at_ hlt
      have cHy := Lib.hid (cH.out y)
      cases hg : get A.L y with
      | none =>
        have hno : mkO k a b s (ys.map (get A.L)) = none := by
          unfold mkO
          rw [alls_none]
          rw [List.mem_map]
          exact ⟨y, List.mem_of_getElem? hy, hg⟩
        have hno := Lib.hid hno
        rw [show hasB A y = false by unfold hasB; rw [hg]; rfl] at cHy
        clear hg hy
        go_wp2_with (go_at_call 43; refine cHy.out.mono ?_; rintro r w2 ⟨rfl, rfl⟩)
        go_ret
        exact PutR.none_ hHH.out hB2.out hno.out
      | some t =>
        have hmem := get_mem hg
        obtain ⟨q, rfl, hq⟩ := get_some hg
        rw [show hasB A (q : Int) = true by unfold hasB; rw [hg]; rfl] at cHy
        have hqN : q < A.N.length := by rw [← hL]; exact (List.getElem?_eq_some_iff.1 hq).1
        obtain ⟨bsz, offs, z, rfl, hbs, hzz, hcz⟩ := h2.at_ hqN
        obtain ⟨nd, hnd, rfl⟩ := Ar.N_at hq
        rw [List.getElem?_map, hnd] at hzz
        simp only [Option.map_some, Option.some.injEq] at hzz
        subst hzz
        have hst := Lib.hid (show (ys.take (j + 1)).map (get A.L) = (ts ++ [nd.t]).map some by rw [take_succ_of hy, List.map_append, hts.out, List.map_append]; simp [hg])
        have hin2 := Lib.hid (show ∀ t ∈ ts ++ [nd.t], t ∈ A.L from fun t ht => by
          rcases List.mem_append.1 ht with h | h
          · exact hin.out t h
          · simp only [List.mem_singleton] at h; subst h; exact hmem)
        have hl1 := tlens_le (ts := ts) (M := 131072) (fun t ht => hsz.out t (hin.out t ht))
        have htl : ts.length ≤ j := by
          have := congrArg List.length hts.out
          simp only [List.length_map, List.length_take] at this
          omega
        have hl2 : nd.t.len ≤ 131072 := hsz.out _ hmem
        have hl3 := lens_snoc ts nd.t
        have hl4 : lens ts ≤ 5242880 := Nat.le_trans hl1 (Nat.le_trans (Nat.mul_le_mul_right 131072 (Nat.le_trans htl (Nat.le_trans hj hm))) (by decide))
        have hq0 : (0 : Int) ≤ (q : Int) := by omega
        have hq1 : (q : Int) < (A.N.length : Int) := by omega
        generalize nd.t.len = L1 at hl2 hl3 hcz
        generalize lens ts = L2 at hl4 hl3 ⊢
        generalize own k s.length = L3 at hown hl3 ⊢
        clear hg hy hq hnd hmem hl1 htl
        have hl5 := Lib.hid hl3
        clear hl3
        go_wp2_with (go_at_call 43; refine cHy.out.mono ?_; rintro r w2 ⟨rfl, rfl⟩)
        go_round
        case rel => exact ⟨j + 1, by omega, by go_num, ts ++ [nd.t], hst, hin2, by rw [hl5.out]; go_num⟩
        case measure => simp [intOf]; omega
    · have hjm : j = m := by omega
      subst hjm
      rw [List.take_of_length_le (by omega)] at hts
      have hmk : mkO k a b s (ys.map (get A.L)) = if own k s.length + lens ts ≤ 131072 then some (.mk k a b s ts) else none := by
        unfold mkO
        rw [hts.out, alls_map]
      generalize hS : own k s.length + lens ts = S at hmk ⊢
      have hSh := Lib.hid hS
      clear hS hown
      by_cases hbig : 131072 < S
      · rw [if_neg (by omega)] at hmk
        have hmkh := Lib.hid hmk
        clear hmk
        go_wp2_with fail
        go_ret
        exact PutR.none_ hHH.out hB2.out hmkh.out
      · rw [if_pos (by omega)] at hmk
        have hmkh := Lib.hid hmk
        clear hmk
        have hsmall : S ≤ 131072 := by omega
        clear hbig
        have hS13 : decide (131072 < S) = false := decide_eq_false (by omega)
        obtain ⟨xs, hys, hxN, hxs⟩ := ids_of hts.out
        have hRw := hY
        unfold Ints at hRw
        rw [hys, iv_idv] at hRw
        have hxl : xs.length = j := by have := congrArg List.length hys; rw [List.length_map] at this; omega
        have hx100 : ∀ x ∈ xs, x < 100 := fun x hx => by have := hxN x hx; have := hHH.out.few; omega
        have hgN := Lib.hid (show w.heap.size < w1.heap.size from hgN0)
        clear hys
        go_upto_region 13 with fail
        have cJ := Lib.hid (fun W (h : Below w1.heap.size w1 W) => join_any xs Aa j c W hxl.symm hm hx100 ((hRw.keep hB2.out).keep h))
        refine region_inv (I13 (fun x0 x1 x2 x3 x4 x5 x6 x7 x8 x9 x10 x11 x12 => #[.pointer (some ⟨A.g, 0, none⟩), .agg #[.int .i64 k, .int .i64 a, .int .i64 b, .string (bs s), .slice Aa j c], undef, .pointer (some ⟨w.heap.size, 0, none⟩), u4, .int .i64 S, undef, u7, x12, undef, undef, undef, .pointer (some ⟨A.g, 0, none⟩), .bool false, .agg (ndC k a b s (.slice Aa j c)).toArray, .int .i64 (own k s.length), .pointer (some ⟨w.heap.size, 4, none⟩), .slice Aa j c, .int .i64 j, .int .i64 j, .bool false, u21, u22, u23, u24, u25, u26, u27, u28, u29, u30, u31, u32, u33, u34, u35, u36, .int .i64 S, .bool (decide (131072 < (S : Int))), x0, x1, x2, x3, x4, x5, x6, x7, x8, x9, x10, x11, undef, undef, undef, undef, undef, undef, undef, undef, undef, undef, undef, undef, undef, undef, undef, undef, undef, undef, undef, undef, undef, undef, undef, undef, undef, undef, undef, undef, undef, undef, undef, undef, undef, undef, undef, undef, undef, undef, undef, undef, undef, undef, undef, undef, undef, undef, undef]) w.heap.size k a b s (joinL xs) (.slice Aa j c) w1) ?hlt ?hstep ?hdone rfl (by kernel_rfl) ?start
        case start => exact ⟨undef, undef, undef, undef, undef, undef, undef, undef, undef, undef, undef, undef, undef, rfl, fun j hj => by
            have hj : 14 ≤ j := by
              rcases Nat.lt_or_ge j 14 with h | h
              · exfalso
                revert hj h
                exact (show ∀ j : Nat, (Array.replicate 14 false).getD j true = true → j < 14 → False by
                  intro j hj h
                  simp [Array.getD_eq_getD_getElem?, h] at hj) j
              · exact h
            obtain ⟨k, rfl⟩ : ∃ k, j = k + 12 := ⟨j - 12, by omega⟩
            exact trivial, fun h => by simp [Array.getD] at h, fun h => by simp [Array.getD] at h, drewN_below 1⟩
        case hlt =>
          intro i o ho
          have hi := (Array.getElem?_eq_some_iff.1 ho).1
          match i, hi with
          | 0, _ => obtain rfl := Option.some.inj ho; decide
          | 1, _ => obtain rfl := Option.some.inj ho; decide
          | 2, _ => obtain rfl := Option.some.inj ho; decide
          | 3, _ => obtain rfl := Option.some.inj ho; decide
          | 4, _ => obtain rfl := Option.some.inj ho; decide
          | 5, _ => obtain rfl := Option.some.inj ho; decide
          | 6, _ => obtain rfl := Option.some.inj ho; decide
          | 7, _ => obtain rfl := Option.some.inj ho; decide
          | 8, _ => obtain rfl := Option.some.inj ho; decide
          | 9, _ => obtain rfl := Option.some.inj ho; decide
          | 10, _ => obtain rfl := Option.some.inj ho; decide
          | 11, _ => obtain rfl := Option.some.inj ho; decide
          | 12, _ => obtain rfl := Option.some.inj ho; decide
          | 13, _ => obtain rfl := Option.some.inj ho; decide
        case hstep =>
          rintro L ac W i o ⟨x0, x1, x2, x3, x4, x5, x6, x7, x8, x9, x10, x11, x12, rfl, hF, hL, hG, hBW⟩ ho hLi hd K hK
          have hR3 := rangeAt_keep hR1.out hBW hgN.out
          have s0 := hR3 0 _ rfl
          have s1 := hR3 1 _ rfl
          have s2 := hR3 2 _ rfl
          have s3 := hR3 3 _ rfl
          have s4 := hR3 4 _ rfl
          simp only [Nat.zero_add] at s0 s1 s2 s3 s4
          have cJW := Lib.hid (cJ.out W hBW)
          have hF := Lib.hid hF
          have hL := Lib.hid hL
          have hG := Lib.hid hG
          have hBW := Lib.hid hBW
          have hK := Lib.hid hK
          have hi := (Array.getElem?_eq_some_iff.1 ho).1
          clear cJ hR3
          match i, hi with
          | 0, _ =>
            obtain rfl := Option.some.inj ho
            clear hd ho hi
            go_simp
            exact hK.out _ _ ⟨_, x1, x2, x3, x4, x5, x6, x7, x8, x9, x10, x11, x12, rfl, P13_step (i := 0) (x' := .pointer (some ⟨w.heap.size, 0, none⟩)) hF.out rfl (show 0 < 12 by decide), hL.out, hG.out, hBW.out⟩
          | 1, _ =>
            obtain rfl := Option.some.inj ho
            have l0 : L 0 = true := dep_of hd (n := 0) (by decide)
            obtain rfl := (hF.out 0 l0 : x0 = _)
            clear hd ho hi l0
            go_simp
            exact hK.out _ _ ⟨_, _, x2, x3, x4, x5, x6, x7, x8, x9, x10, x11, x12, rfl, P13_step (i := 1) (x' := .int .i64 k) hF.out rfl (show 1 < 12 by decide), hL.out, hG.out, hBW.out⟩
          | 2, _ =>
            obtain rfl := Option.some.inj ho
            clear hd ho hi
            go_simp
            exact hK.out _ _ ⟨x0, x1, _, x3, x4, x5, x6, x7, x8, x9, x10, x11, x12, rfl, P13_step (i := 2) (x' := .pointer (some ⟨w.heap.size, 1, none⟩)) hF.out rfl (show 2 < 12 by decide), hL.out, hG.out, hBW.out⟩
          | 3, _ =>
            obtain rfl := Option.some.inj ho
            have l2 : L 2 = true := dep_of hd (n := 2) (by decide)
            obtain rfl := (hF.out 2 l2 : x2 = _)
            clear hd ho hi l2
            go_simp
            exact hK.out _ _ ⟨x0, x1, _, _, x4, x5, x6, x7, x8, x9, x10, x11, x12, rfl, P13_step (i := 3) (x' := .int .i64 a) hF.out rfl (show 3 < 12 by decide), hL.out, hG.out, hBW.out⟩
          | 4, _ =>
            obtain rfl := Option.some.inj ho
            clear hd ho hi
            go_simp
            exact hK.out _ _ ⟨x0, x1, x2, x3, _, x5, x6, x7, x8, x9, x10, x11, x12, rfl, P13_step (i := 4) (x' := .pointer (some ⟨w.heap.size, 2, none⟩)) hF.out rfl (show 4 < 12 by decide), hL.out, hG.out, hBW.out⟩
          | 5, _ =>
            obtain rfl := Option.some.inj ho
            have l4 : L 4 = true := dep_of hd (n := 4) (by decide)
            obtain rfl := (hF.out 4 l4 : x4 = _)
            clear hd ho hi l4
            go_simp
            exact hK.out _ _ ⟨x0, x1, x2, x3, _, _, x6, x7, x8, x9, x10, x11, x12, rfl, P13_step (i := 5) (x' := .int .i64 b) hF.out rfl (show 5 < 12 by decide), hL.out, hG.out, hBW.out⟩
          | 6, _ =>
            obtain rfl := Option.some.inj ho
            clear hd ho hi
            go_simp
            exact hK.out _ _ ⟨x0, x1, x2, x3, x4, x5, _, x7, x8, x9, x10, x11, x12, rfl, P13_step (i := 6) (x' := .pointer (some ⟨w.heap.size, 3, none⟩)) hF.out rfl (show 6 < 12 by decide), hL.out, hG.out, hBW.out⟩
          | 7, _ =>
            obtain rfl := Option.some.inj ho
            have l6 : L 6 = true := dep_of hd (n := 6) (by decide)
            obtain rfl := (hF.out 6 l6 : x6 = _)
            clear hd ho hi l6
            go_simp
            exact hK.out _ _ ⟨x0, x1, x2, x3, x4, x5, _, _, x8, x9, x10, x11, x12, rfl, P13_step (i := 7) (x' := .string (bs s)) hF.out rfl (show 7 < 12 by decide), hL.out, hG.out, hBW.out⟩
          | 8, _ =>
            obtain rfl := Option.some.inj ho
            clear hd ho hi
            go_simp
            exact hK.out _ _ ⟨x0, x1, x2, x3, x4, x5, x6, x7, _, x9, x10, x11, x12, rfl, P13_step (i := 8) (x' := .pointer (some ⟨w.heap.size, 4, none⟩)) hF.out rfl (show 8 < 12 by decide), hL.out, hG.out, hBW.out⟩
          | 9, _ =>
            obtain rfl := Option.some.inj ho
            have l8 : L 8 = true := dep_of hd (n := 8) (by decide)
            obtain rfl := (hF.out 8 l8 : x8 = _)
            clear hd ho hi l8
            go_simp
            exact hK.out _ _ ⟨x0, x1, x2, x3, x4, x5, x6, x7, _, _, x10, x11, x12, rfl, P13_step (i := 9) (x' := .slice Aa j c) hF.out rfl (show 9 < 12 by decide), hL.out, hG.out, hBW.out⟩
          | 10, _ =>
            obtain rfl := Option.some.inj ho
            have l9 : L 9 = true := dep_of hd (n := 9) (by decide)
            obtain rfl := (hF.out 9 l9 : x9 = _)
            clear hd ho hi l9
            go_simp
            go_at_call 92
            refine cJW.out.mono ?_
            rintro r w3 ⟨rfl, hb3⟩
            refine hK.out _ _ ⟨x0, x1, x2, x3, x4, x5, x6, x7, x8, _, _, x11, x12, rfl, P13_step (i := 10) (x' := .string (bs (joinL xs))) hF.out rfl (show 10 < 12 by decide), hL.out, fun h => ?_, hBW.out.trans (hb3.mono hBW.out.size)⟩
            obtain ⟨g8, h1, h2, h3, h4⟩ := hG.out h
            exact ⟨g8, h1, h2, fun h => (hb3.block g8 (Array.getElem?_eq_some_iff.1 (h3 h)).1).trans (h3 h), fun h => (hb3.block g8 (Array.getElem?_eq_some_iff.1 (h4 h)).1).trans (h4 h)⟩
          | 11, _ =>
            obtain rfl := Option.some.inj ho
            have l1 : L 1 = true := dep_of hd (n := 1) (by decide)
            obtain rfl := (hF.out 1 l1 : x1 = _)
            have l3 : L 3 = true := dep_of hd (n := 3) (by decide)
            obtain rfl := (hF.out 3 l3 : x3 = _)
            have l5 : L 5 = true := dep_of hd (n := 5) (by decide)
            obtain rfl := (hF.out 5 l5 : x5 = _)
            have l7 : L 7 = true := dep_of hd (n := 7) (by decide)
            obtain rfl := (hF.out 7 l7 : x7 = _)
            have l10 : L 10 = true := dep_of hd (n := 10) (by decide)
            obtain rfl := (hF.out 10 l10 : x10 = _)
            clear hd ho hi l1 l3 l5 l7 l10
            go_simp
            exact hK.out _ _ ⟨x0, _, x2, _, x4, _, x6, _, x8, x9, _, _, x12, rfl, P13_step (i := 11) (x' := .agg #[.int .i64 k, .int .i64 a, .int .i64 b, .string (bs s), .string (bs (joinL xs))]) hF.out rfl (show 11 < 12 by decide), hL.out, hG.out, hBW.out⟩
          | 12, _ =>
            obtain rfl := Option.some.inj ho
            have h13 : L 13 = false := by cases h : L 13 with
              | false => rfl
              | true => rw [hL.out h] at hLi; cases hLi
            have hb := below_new W (.cells #[.int .i64 0, .int .i64 0, .int .i64 0, .string ⟨#[]⟩, .string ⟨#[]⟩] 142)
            have hn := heap_new W (.cells #[.int .i64 0, .int .i64 0, .int .i64 0, .string ⟨#[]⟩, .string ⟨#[]⟩] 142)
            have hb := Lib.hid hb
            have hn := Lib.hid hn
            clear hd ho hi hLi
            go_simp
            refine hK.out _ _ ⟨x0, x1, x2, x3, x4, x5, x6, x7, x8, x9, x10, x11, _, rfl, fun j' hj' => ?_, fun _ => rfl, fun _ => ⟨W.heap.size, rfl, hBW.out.size, fun _ => hn.out, fun h => ?_⟩, hBW.out.trans (hb.out.mono hBW.out.size)⟩
            · by_cases e : j' = 12
              · subst e; exact trivial
              · exact hF.out j' (by simpa [e] using hj')
            · have h' : L 13 = true := h
              rw [h13] at h'; cases h'
          | 13, _ =>
            obtain rfl := Option.some.inj ho
            have l12 : L 12 = true := dep_of hd (n := 12) (by decide)
            have l11 : L 11 = true := dep_of hd (n := 11) (by decide)
            obtain rfl := (hF.out 11 l11 : x11 = _)
            obtain ⟨g8, rfl, h2, h3, _⟩ := hG.out l12
            have h3 := h3 hLi
            have hst := stS_run W g8 #[.int .i64 0, .int .i64 0, .int .i64 0, .string ⟨#[]⟩, .string ⟨#[]⟩] #[.int .i64 k, .int .i64 a, .int .i64 b, .string (bs s), .string (bs (joinL xs))] h3 rfl (by simp [Value.oneCell']) rfl
            have h3h := Lib.hid h3
            clear h3
            clear hd ho hi hLi l11
            go_simp
            refine hK.out _ _ ⟨x0, x1, x2, x3, x4, x5, x6, x7, x8, x9, x10, _, _, rfl, fun j' hj' => ?_, fun _ => l12, fun _ => ⟨g8, rfl, h2, fun h => ?_, fun _ => hsetRow_ h3h.out⟩, below_setRow_ hBW.out h2 _⟩
            · by_cases e : j' = 13
              · subst e; exact trivial
              · exact hF.out j' (by simpa [e] using hj')
            · simp at h
        case hdone =>
          rintro L ac W3 ⟨x0, x1, x2, x3, x4, x5, x6, x7, x8, x9, x10, x11, x12, rfl, hF, _, hG, hBW⟩ hall
          obtain rfl := (hF 0 (hall 0 (show 0 < 14 by decide)) : x0 = _)
          obtain rfl := (hF 1 (hall 1 (show 1 < 14 by decide)) : x1 = _)
          obtain rfl := (hF 2 (hall 2 (show 2 < 14 by decide)) : x2 = _)
          obtain rfl := (hF 3 (hall 3 (show 3 < 14 by decide)) : x3 = _)
          obtain rfl := (hF 4 (hall 4 (show 4 < 14 by decide)) : x4 = _)
          obtain rfl := (hF 5 (hall 5 (show 5 < 14 by decide)) : x5 = _)
          obtain rfl := (hF 6 (hall 6 (show 6 < 14 by decide)) : x6 = _)
          obtain rfl := (hF 7 (hall 7 (show 7 < 14 by decide)) : x7 = _)
          obtain rfl := (hF 8 (hall 8 (show 8 < 14 by decide)) : x8 = _)
          obtain rfl := (hF 9 (hall 9 (show 9 < 14 by decide)) : x9 = _)
          obtain rfl := (hF 10 (hall 10 (show 10 < 14 by decide)) : x10 = _)
          obtain rfl := (hF 11 (hall 11 (show 11 < 14 by decide)) : x11 = _)
          obtain ⟨g8, rfl, h8, _, hk8⟩ := hG (hall 12 (show 12 < 14 by decide))
          have hk8 := Lib.hid (hk8 (hall 13 (show 13 < 14 by decide)))
          have hBW := Lib.hid hBW
          clear hF hG hall cJ
          dsimp only
          have hokt : okHd k a b s ts.length := by
            have := hok _ hmkh.out
            rw [ok_mk] at this
            exact this.1
          have hjl : (joinL xs).length ≤ 1000 := by
            have := joinL_len xs hx100
            omega
          obtain ⟨kl, hkl⟩ := sh_keyOf (key_ok hokt hjl)
          have hkl' : keyOf Tryz.prog 142 (keyV (.mk k a b s ts) xs) = some kl := hkl
          have hB3 := Lib.hid (hB2.out.trans (hBW.out.mono hB2.out.size))
          have hA3 := hHH.out.keep hB3.out
          obtain ⟨f, cl, hlook, hhit, hmiss⟩ := hA3.look hkl
          have hlS := fun q => ldS_run (w := W3.drewN q) hk8.out rfl
          have hc2 := (hBW.out.cell (p := ⟨A.g, 2, none⟩) (Nat.lt_of_lt_of_le hA1.out.lt (Nat.le_refl _))).trans c2
          have hN3 := Lib.hid ((hBW.out.block w.heap.size hgN.out).trans hN1.out)
          have hAh := Lib.hid hA3
          cases f with
          | true =>
            obtain ⟨jj, x, hjx, rfl, hkx⟩ := hhit rfl
            have ht := hA3.key_inj hxN hxs hkl' hjx hkx
            have hlookh := hlook
            have hAt := Lib.hid (ar_L_at hjx ht)
            clear hhit hmiss hkl hkl' hA3 hkx ht hjx
            go_wp2_with fail
            go_quiet (fail)
            clear hlook hlookh hlS
            go_wp2_with fail
            go_ret
            rw [hmkh.out]
            refine ⟨A, _, rfl, ⟨hAh.out.keep (drewN_below _), rfl, .inl ⟨rfl, fun t ht => ?_⟩, Keeps.of_below (hB3.out.trans (Below.mono (drewN_below _) hB3.out.size)), fun _ hx => .inl hx, rfl⟩, ?_, fun h => by cases h⟩
            · obtain rfl := Option.some.inj ht
              exact List.mem_of_getElem? hAt.out
            · rw [get_nat]; exact hAt.out
          | false =>
            have hnew := Lib.hid (hA3.key_none hxs hkl' (hmiss rfl))
            have hfree := Lib.hid (hmiss rfl)
            have hlookh := hlook
            clear hhit hmiss hkl hA3
            have hklh := Lib.hid hkl'
            clear hkl'
            go_wp2_with fail
            go_quiet (fail)
            clear hlook hlookh hlS
            generalize hW4 : W3.drewN nq = W4
            have hB4 := Lib.hid (show Below w.heap.size w W4 by rw [← hW4]; exact hB3.out.trans (Below.mono (drewN_below _) hB3.out.size))
            have hA4 := Lib.hid (show Arena W4 B A by rw [← hW4]; exact hAh.out.keep (drewN_below _))
            have hN4 := Lib.hid (show W4.heap[w.heap.size]? = some (.cells (ndC k a b s (.slice Aa j c)).toArray 52 (0, 0)) by rw [← hW4]; exact hN3.out)
            have hK4 := Lib.hid (show W4.heap[g8]? = some (.cells #[.int .i64 k, .int .i64 a, .int .i64 b, .string (bs s), .string (bs (joinL xs))] 142 (0, 0)) by rw [← hW4]; exact hk8.out)
            have hR4 := Lib.hid ((show Rws W4 1 Aa j (xs.map idv) from hRw.keep hB4.out))
            clear hW4 hB3 hBW hAh hN3 hk8 hc2
            have d0 : W4.cell? ⟨A.g, 0, none⟩ = some (.slice An A.N.length cn) := by rw [cell_of_row W4 A.g 0 _ _ _ hA4.out.blk, e1h.out]; rfl
            have d1 : W4.cell? ⟨A.g, 1, none⟩ = some (.slice As A.N.length cs) := by rw [cell_of_row W4 A.g 1 _ _ _ hA4.out.blk, e2h.out]; rfl
            have d2 : W4.cell? ⟨A.g, 2, none⟩ = some (.map (some A.bm)) := by rw [cell_of_row W4 A.g 2 _ _ _ hA4.out.blk]; rfl
            have d4 : W4.cell? ⟨w.heap.size, 4, none⟩ = some (.slice Aa j c) := cell_of_row W4 w.heap.size 4 _ _ _ hN4.out
            have cCl := Lib.hid (cloneI_any xs Aa j c W4 hxl (by omega) hR4.out)
            have hgN4 : w.heap.size < W4.heap.size := (Array.getElem?_eq_some_iff.1 hN4.out).1
            have hg84 : g8 < W4.heap.size := (Array.getElem?_eq_some_iff.1 hK4.out).1
            have hne8 : w.heap.size ≠ g8 := by omega
            go_upto_region 19 with (go_at_call 44; refine cCl.out.mono ?_; rintro r W5 ⟨v5, rfl, hO5, hb5⟩
                                    have hI5 := IdsV.of_own hO5
                                    have hv5 : ∀ q, v5.ownBlock = some q → w.heap.size ≤ q := fun q hq => Nat.le_trans hB4.out.size (hO5.1.lt q hq).1
                                    obtain ⟨A5, c5, rfl, hr5⟩ := hO5.rws
                                    rw [List.length_map, hxl] at *
                                    have hI5h := Lib.hid hI5
                                    have hv5h := Lib.hid hv5
                                    have hN5 := (hb5.block w.heap.size hgN4).trans hN4.out
                                    have hK5 := (hb5.block g8 hg84).trans hK4.out
                                    have hA5 := hA4.out.keep hb5
                                    have hB5 := Lib.hid (hB4.out.trans (hb5.mono hB4.out.size))
                                    have hcc : W5.cell? ⟨w.heap.size, 4, none⟩ = some (.slice Aa j c) := cell_of_row W5 w.heap.size 4 _ _ _ hN5
                                    have hfz := frozen_of_row W5 w.heap.size 4 _ _ hN5
                                    clear d0 d1 d2 d4 hI5 hr5 hv5)
            have hN100 : A.N.length ≤ 100 := hHH.out.few
            obtain ⟨n0, hn0, hnz, hns, hnb⟩ := info_parts nd_info
            obtain ⟨z0, hz0, hzz, hzs, hzb⟩ := info_parts int_info
            have hB6 := Lib.hid (show Below w.heap.size w (W5.setCell ⟨w.heap.size, 4, none⟩ (.slice A5 j c5)) from hB5.out.setCell (Nat.le_refl _) _)
            have hset := grown_set W5 ⟨w.heap.size, 4, none⟩ (.slice A5 j c5)
            have htN : ∀ q, some w.heap.size = some q → Typ W5 q 52 := fun q hq => by injection hq with hq; subst hq; exact ⟨_, _, hN5⟩
            have hA6 := Lib.hid (arena_set hHH.out hA5 (Nat.le_refl w.heap.size) 4 (.slice A5 j c5) hN5)
            have hN6 : (W5.setCell ⟨w.heap.size, 4, none⟩ (.slice A5 j c5)).heap[w.heap.size]? = some (.cells (ndC k a b s (.slice A5 j c5)).toArray 52 (0, 0)) := by
              rw [heap_setCell_same W5 w.heap.size 4 _ _ _ hN5]; rfl
            have hK6 := Lib.hid (block_grown hK5 hset htN (by decide))
            have hI6 := Lib.hid (IdsV.keep hI5h.out (F := fun q => some w.heap.size = some q) (Keeps.of_grown hset fun q hq => hq) (fun b' cur fr hb' hf => (show Typ W5 b' _ from ⟨_, _, hb'⟩).ne (htN b' hf) (by decide) rfl))
            have hvn := Lib.hid (fun q (hq : A.vn.ownBlock = some q) => (show q ≠ w.heap.size from fun e => by
              have := ownBlock_lt hHH.out.nodes hq
              omega))
            have hN6 := Lib.hid hN6
            have hK5h := hK5
            clear hN5 hK5 hK5h hA5 hcc hfz hset htN
            generalize W5.setCell ⟨w.heap.size, 4, none⟩ (.slice A5 j c5) = W6 at hB6 hA6 hN6 hK6 hI6 ⊢
            refine region_inv (I19 (fun x0 x1 x2 x3 x4 x5 x6 x7 x8 x9 x10 x11 x12 x13 x14 x15 x16 x17 x19 x20 => #[.pointer (some ⟨A.g, 0, none⟩), .agg #[.int .i64 k, .int .i64 a, .int .i64 b, .string (bs s), .slice Aa j c], undef, .pointer (some ⟨w.heap.size, 0, none⟩), u4, .int .i64 S, undef, u7, .pointer (some ⟨g8, 0, none⟩), .int .i64 cl, .bool false, .int .i64 A.N.length, .pointer (some ⟨A.g, 0, none⟩), .bool false, .agg (ndC k a b s (.slice Aa j c)).toArray, .int .i64 (own k s.length), .pointer (some ⟨w.heap.size, 4, none⟩), .slice Aa j c, .int .i64 j, .int .i64 j, .bool false, u21, u22, u23, u24, u25, u26, u27, u28, u29, u30, u31, u32, u33, u34, u35, u36, .int .i64 S, .bool (decide (131072 < (S : Int))), .pointer (some ⟨w.heap.size, 0, none⟩), .int .i64 k, .pointer (some ⟨w.heap.size, 1, none⟩), .int .i64 a, .pointer (some ⟨w.heap.size, 2, none⟩), .int .i64 b, .pointer (some ⟨w.heap.size, 3, none⟩), .string (bs s), .pointer (some ⟨w.heap.size, 4, none⟩), .slice Aa j c, .string (bs (joinL xs)), .agg #[.int .i64 k, .int .i64 a, .int .i64 b, .string (bs s), .string (bs (joinL xs))], .tuple #[.int .i64 cl, .bool false], .pointer (some ⟨A.g, 0, none⟩), .pointer (some ⟨A.g, 0, none⟩), .pointer (some ⟨A.g, 2, none⟩), .map (some A.bm), .agg #[.int .i64 k, .int .i64 a, .int .i64 b, .string (bs s), .string (bs (joinL xs))], .tuple #[.int .i64 cl, .bool false], .int .i64 cl, .bool false, .bool false, undef, .pointer (some ⟨A.g, 0, none⟩), .pointer (some ⟨A.g, 0, none⟩), .pointer (some ⟨A.g, 0, none⟩), .slice An A.N.length cn, .int .i64 A.N.length, .pointer (some ⟨w.heap.size, 4, none⟩), .slice Aa j c, .slice A5 j c5, .pointer (some ⟨w.heap.size, 4, none⟩), x0, x1, x2, x3, x4, x5, x6, x7, x8, x9, x10, x11, x12, x13, x14, x15, x16, x17, x19, x20, undef, undef, undef, undef, undef, undef, undef]) B A S (ndC k a b s (.slice A5 j c5)) w.heap.size W6) ?hlt ?hstep ?hdone rfl (by kernel_rfl) ?start
            case start => exact ⟨undef, undef, undef, undef, undef, undef, undef, undef, undef, undef, undef, undef, undef, undef, undef, undef, undef, undef, undef, undef, rfl, fun j hj => by
                have hj : 22 ≤ j := by
                  rcases Nat.lt_or_ge j 22 with h | h
                  · exfalso
                    revert hj h
                    exact (show ∀ j : Nat, (Array.replicate 22 false).getD j true = true → j < 22 → False by
                      intro j hj h
                      simp [Array.getD_eq_getD_getElem?, h] at hj) j
                  · exact h
                obtain ⟨k, rfl⟩ : ∃ k, j = k + 21 := ⟨j - 21, by omega⟩
                exact trivial, Q19.start hA6.out (Nat.le_trans hB hB6.out.size) hN6.out hvn.out (drewN_below 1), fun _ => rfl, fun _ => rfl⟩
            case hlt =>
              intro i o ho
              have hi := (Array.getElem?_eq_some_iff.1 ho).1
              match i, hi with
              | 0, _ => obtain rfl := Option.some.inj ho; decide
              | 1, _ => obtain rfl := Option.some.inj ho; decide
              | 2, _ => obtain rfl := Option.some.inj ho; decide
              | 3, _ => obtain rfl := Option.some.inj ho; decide
              | 4, _ => obtain rfl := Option.some.inj ho; decide
              | 5, _ => obtain rfl := Option.some.inj ho; decide
              | 6, _ => obtain rfl := Option.some.inj ho; decide
              | 7, _ => obtain rfl := Option.some.inj ho; decide
              | 8, _ => obtain rfl := Option.some.inj ho; decide
              | 9, _ => obtain rfl := Option.some.inj ho; decide
              | 10, _ => obtain rfl := Option.some.inj ho; decide
              | 11, _ => obtain rfl := Option.some.inj ho; decide
              | 12, _ => obtain rfl := Option.some.inj ho; decide
              | 13, _ => obtain rfl := Option.some.inj ho; decide
              | 14, _ => obtain rfl := Option.some.inj ho; decide
              | 15, _ => obtain rfl := Option.some.inj ho; decide
              | 16, _ => obtain rfl := Option.some.inj ho; decide
              | 17, _ => obtain rfl := Option.some.inj ho; decide
              | 18, _ => obtain rfl := Option.some.inj ho; decide
              | 19, _ => obtain rfl := Option.some.inj ho; decide
              | 20, _ => obtain rfl := Option.some.inj ho; decide
              | 21, _ => obtain rfl := Option.some.inj ho; decide
            case hstep =>
              rintro L ac W i o ⟨x0, x1, x2, x3, x4, x5, x6, x7, x8, x9, x10, x11, x12, x13, x14, x15, x16, x17, x19, x20, rfl, hF, hQ, hP⟩ ho hLi hd K hK
              have hP := Lib.hid hP
              have hF := Lib.hid hF
              have hQ := Lib.hid hQ
              have hK := Lib.hid hK
              have hi := (Array.getElem?_eq_some_iff.1 ho).1
              match i, hi with
              | 0, _ =>
                obtain rfl := Option.some.inj ho
                clear hd ho hi
                go_simp
                exact hK.out _ _ ⟨_, x1, x2, x3, x4, x5, x6, x7, x8, x9, x10, x11, x12, x13, x14, x15, x16, x17, x19, x20, rfl, P19_step (i := 0) (x' := .pointer (some ⟨A.g, 0, none⟩)) hF.out rfl (show 0 < 21 by decide), hQ.out, hP.out⟩
              | 1, _ =>
                obtain rfl := Option.some.inj ho
                clear hd ho hi
                go_simp
                exact hK.out _ _ ⟨x0, _, x2, x3, x4, x5, x6, x7, x8, x9, x10, x11, x12, x13, x14, x15, x16, x17, x19, x20, rfl, P19_step (i := 1) (x' := .pointer (some ⟨A.g, 0, none⟩)) hF.out rfl (show 1 < 21 by decide), hQ.out, hP.out⟩
              | 2, _ =>
                obtain rfl := Option.some.inj ho
                clear hd ho hi
                go_simp
                exact hK.out _ _ ⟨x0, x1, _, x3, x4, x5, x6, x7, x8, x9, x10, x11, x12, x13, x14, x15, x16, x17, x19, x20, rfl, P19_step (i := 2) (x' := .pointer (some ⟨A.g, 0, none⟩)) hF.out rfl (show 2 < 21 by decide), hQ.out, hP.out⟩
              | 3, _ =>
                obtain rfl := Option.some.inj ho
                have l2 : L 2 = true := dep_of hd (n := 2) (by decide)
                obtain rfl := (hF.out 2 l2 : x2 = _)
                clear hd ho hi l2
                go_simp
                exact hK.out _ _ ⟨x0, x1, _, _, x4, x5, x6, x7, x8, x9, x10, x11, x12, x13, x14, x15, x16, x17, x19, x20, rfl, P19_step (i := 3) (x' := .pointer (some ⟨A.g, 0, none⟩)) hF.out rfl (show 3 < 21 by decide), hQ.out, hP.out⟩
              | 4, _ =>
                obtain rfl := Option.some.inj ho
                have l3 : L 3 = true := dep_of hd (n := 3) (by decide)
                obtain rfl := (hF.out 3 l3 : x3 = _)
                clear hd ho hi l3
                go_simp
                exact hK.out _ _ ⟨x0, x1, x2, _, _, x5, x6, x7, x8, x9, x10, x11, x12, x13, x14, x15, x16, x17, x19, x20, rfl, P19_step (i := 4) (x' := .pointer (some ⟨A.g, 0, none⟩)) hF.out rfl (show 4 < 21 by decide), hQ.out, hP.out⟩
              | 5, _ =>
                obtain rfl := Option.some.inj ho
                have l4 : L 4 = true := dep_of hd (n := 4) (by decide)
                obtain rfl := (hF.out 4 l4 : x4 = _)
                have h18 : L 18 = false := hP.out.1 hLi
                have hb := hQ.out.blk
                rw [h18] at hb
                have hc : W.cell? ⟨A.g, 0, none⟩ = some A.vn := cell_of_row W A.g 0 _ _ _ hb
                rw [e1h.out] at hc
                clear hb
                clear hd ho hi l4
                go_simp
                exact hK.out _ _ ⟨x0, x1, x2, x3, _, _, x6, x7, x8, x9, x10, x11, x12, x13, x14, x15, x16, x17, x19, x20, rfl, P19_step (i := 5) (x' := .slice An A.N.length cn) hF.out e1h.out.symm (show 5 < 21 by decide), hQ.out, (fun h => by cases h), hP.out.2⟩
              | 6, _ =>
                obtain rfl := Option.some.inj ho
                have hl := ldN_run hQ.out.nd rfl
                clear hd ho hi
                go_simp
                exact hK.out _ _ ⟨x0, x1, x2, x3, x4, x5, _, x7, x8, x9, x10, x11, x12, x13, x14, x15, x16, x17, x19, x20, rfl, P19_step (i := 6) (x' := .agg (ndC k a b s (.slice A5 j c5)).toArray) hF.out rfl (show 6 < 21 by decide), hQ.out, hP.out⟩
              | 7, _ =>
                obtain rfl := Option.some.inj ho
                have l6 : L 6 = true := dep_of hd (n := 6) (by decide)
                obtain rfl := (hF.out 6 l6 : x6 = _)
                have hQ7 := hQ.out
                rw [hLi] at hQ7
                have hq := Lib.hid hQ7.step7
                clear hQ7
                clear hd ho hi l6
                refine wp_val_ rfl (run_buildSlice_ 61 52 1 _ rfl n0 _ (ndC k a b s (.slice A5 j c5)).toArray Tryz.underlying61 hn0 hnz (by rw [hns]; decide) (by rw [hns]; decide) ?_) ?_
                · rw [hns]; exact fill_one 5 _ _ (by simp) rfl
                refine hK.out _ _ ⟨x0, x1, x2, x3, x4, x5, _, _, x8, x9, x10, x11, x12, x13, x14, x15, x16, x17, x19, x20, rfl, P19_step (i := 7) (x' := .slice (some ⟨W.heap.size, 0, none⟩) 1 1) hF.out trivial (show 7 < 21 by decide), hq.out, hP.out⟩
              | 8, _ =>
                obtain rfl := Option.some.inj ho
                have l5 : L 5 = true := dep_of hd (n := 5) (by decide)
                obtain rfl := (hF.out 5 l5 : x5 = _)
                have l7 : L 7 = true := dep_of hd (n := 7) (by decide)
                have hQ8 := hQ.out
                rw [hLi, l7] at hQ8
                obtain ⟨g7, rfl, hg7⟩ := hQ8.f7 rfl
                have hg7 := hg7 rfl
                have hown := hQ8.n0 rfl
                have hr7 := rangeAt_list (cs := (ndC k a b s (.slice A5 j c5))) hg7
                have hown := hown.1
                have hq8 := Lib.hid hQ8
                rw [List.length_map] at hown
                have hBW := hQ8.hB
                clear hQ8
                clear hd ho hi l5
                refine wp_on_ rfl (wp_append_own W _ _ 61 rfl B 52 n0 _ 5 64 Tryz.underlying61 hn0 hnz hns hnb rfl (by decide) A.vn _ _ rfl hown ⟨g7, 0, none⟩ 1 1 (ndC k a b s (.slice A5 j c5)) rfl rfl ?_ nd_one ?_ ?_ hBW ?_)
                · intro j' u hu; rw [Addr.add_mid]; exact hr7 j' u hu
                · unfold maxLen; omega
                · omega
                intro v' W' hown' hg' _
                have hO' : OwnR W' B 5 52 v' (A.N.map Nd.row ++ [(ndC k a b s (.slice A5 j c5))]) := ⟨by simpa [List.length_append, List.flatten_append] using hown', fun z hz => by
                  rcases List.mem_append.1 hz with hz | hz
                  · obtain ⟨y, _, rfl⟩ := List.mem_map.1 hz; rfl
                  · simp only [List.mem_singleton] at hz; subst hz; rfl⟩
                refine hK.out _ _ ⟨x0, x1, x2, x3, x4, _, x6, _, _, x9, x10, x11, x12, x13, x14, x15, x16, x17, x19, x20, rfl, P19_step (i := 8) (x' := v') hF.out trivial (show 8 < 21 by decide), ?_, hP.out⟩
                show Q19 B A S (ndC k a b s (.slice A5 j c5)) w.heap.size W6 (L 7) true (L 14) (L 15) (L 18) (L 21) _ v' x14 x15 W'
                rw [l7]
                exact hq8.out.step8 hO' hg'
              | 9, _ =>
                obtain rfl := Option.some.inj ho
                clear hd ho hi
                go_simp
                exact hK.out _ _ ⟨x0, x1, x2, x3, x4, x5, x6, x7, x8, _, x10, x11, x12, x13, x14, x15, x16, x17, x19, x20, rfl, P19_step (i := 9) (x' := .pointer (some ⟨A.g, 0, none⟩)) hF.out rfl (show 9 < 21 by decide), hQ.out, hP.out⟩
              | 10, _ =>
                obtain rfl := Option.some.inj ho
                have l9 : L 9 = true := dep_of hd (n := 9) (by decide)
                obtain rfl := (hF.out 9 l9 : x9 = _)
                clear hd ho hi l9
                go_simp
                exact hK.out _ _ ⟨x0, x1, x2, x3, x4, x5, x6, x7, x8, _, _, x11, x12, x13, x14, x15, x16, x17, x19, x20, rfl, P19_step (i := 10) (x' := .pointer (some ⟨A.g, 0, none⟩)) hF.out rfl (show 10 < 21 by decide), hQ.out, hP.out⟩
              | 11, _ =>
                obtain rfl := Option.some.inj ho
                have l10 : L 10 = true := dep_of hd (n := 10) (by decide)
                obtain rfl := (hF.out 10 l10 : x10 = _)
                clear hd ho hi l10
                go_simp
                exact hK.out _ _ ⟨x0, x1, x2, x3, x4, x5, x6, x7, x8, x9, _, _, x12, x13, x14, x15, x16, x17, x19, x20, rfl, P19_step (i := 11) (x' := .pointer (some ⟨A.g, 1, none⟩)) hF.out rfl (show 11 < 21 by decide), hQ.out, hP.out⟩
              | 12, _ =>
                obtain rfl := Option.some.inj ho
                have l11 : L 11 = true := dep_of hd (n := 11) (by decide)
                obtain rfl := (hF.out 11 l11 : x11 = _)
                have h21 : L 21 = false := hP.out.2 hLi
                have hb := hQ.out.blk
                rw [h21] at hb
                have hc : W.cell? ⟨A.g, 1, none⟩ = some A.vs := cell_of_row W A.g 1 _ _ _ hb
                rw [e2h.out] at hc
                clear hb
                clear hd ho hi l11
                go_simp
                exact hK.out _ _ ⟨x0, x1, x2, x3, x4, x5, x6, x7, x8, x9, x10, _, _, x13, x14, x15, x16, x17, x19, x20, rfl, P19_step (i := 12) (x' := .slice As A.N.length cs) hF.out e2h.out.symm (show 12 < 21 by decide), hQ.out, hP.out.1, (fun h => by cases h)⟩
              | 13, _ =>
                obtain rfl := Option.some.inj ho
                clear hd ho hi
                go_simp
                exact hK.out _ _ ⟨x0, x1, x2, x3, x4, x5, x6, x7, x8, x9, x10, x11, x12, _, x14, x15, x16, x17, x19, x20, rfl, P19_step (i := 13) (x' := .int .i64 S) hF.out rfl (show 13 < 21 by decide), hQ.out, hP.out⟩
              | 14, _ =>
                obtain rfl := Option.some.inj ho
                have l13 : L 13 = true := dep_of hd (n := 13) (by decide)
                obtain rfl := (hF.out 13 l13 : x13 = _)
                have hQ7 := hQ.out
                rw [hLi] at hQ7
                have hq := Lib.hid hQ7.step14
                clear hQ7
                clear hd ho hi l13
                refine wp_val_ rfl (run_buildSlice_ 62 3 1 _ rfl z0 _ #[.int .i64 S] Tryz.underlying62 hz0 hzz (by rw [hzs]; decide) (by rw [hzs]; decide) ?_) ?_
                · rw [hzs]; exact fill_one 1 _ #[.int .i64 S] (by simp) rfl
                refine hK.out _ _ ⟨x0, x1, x2, x3, x4, x5, x6, x7, x8, x9, x10, x11, x12, _, _, x15, x16, x17, x19, x20, rfl, P19_step (i := 14) (x' := .slice (some ⟨W.heap.size, 0, none⟩) 1 1) hF.out trivial (show 14 < 21 by decide), hq.out, hP.out⟩
              | 15, _ =>
                obtain rfl := Option.some.inj ho
                have l12 : L 12 = true := dep_of hd (n := 12) (by decide)
                obtain rfl := (hF.out 12 l12 : x12 = _)
                have l14 : L 14 = true := dep_of hd (n := 14) (by decide)
                have l8 : L 8 = true := dep_of hd (n := 8) (by decide)
                have hQ8 := hQ.out
                rw [hLi, l14, l8] at hQ8
                obtain ⟨g14, rfl, hg14⟩ := hQ8.f14 rfl
                have hg14 := hg14 rfl
                have hown := hQ8.s0 rfl
                have hr14 := rangeAt_list (cs := [.int .i64 S]) hg14
                have hown := hown.1
                have hq8 := Lib.hid hQ8
                rw [List.length_map, List.length_map] at hown
                have hBW := hQ8.hB
                clear hQ8
                clear hd ho hi l12
                refine wp_on_ rfl (wp_append_own W _ _ 62 rfl B 3 z0 _ 1 8 Tryz.underlying62 hz0 hzz hzs hzb rfl (by decide) A.vs _ _ rfl hown ⟨g14, 0, none⟩ 1 1 (iv S) rfl rfl ?_ ?_ ?_ ?_ hBW ?_)
                · intro j' u hu; rw [Addr.add_mid]; exact hr14 j' u hu
                · intro u hu; simp only [iv, List.mem_singleton] at hu; subst hu; rfl
                · unfold maxLen; omega
                · omega
                intro v' W' hown' hg' _
                have hO' : OwnR W' B 1 3 v' ((A.N.map fun x => (x.t.len : Int)).map iv ++ [iv S]) := ⟨by simpa [List.length_append, List.flatten_append] using hown', fun z hz => by
                  rcases List.mem_append.1 hz with hz | hz
                  · obtain ⟨y, _, rfl⟩ := List.mem_map.1 hz; rfl
                  · simp only [List.mem_singleton] at hz; subst hz; rfl⟩
                refine hK.out _ _ ⟨x0, x1, x2, x3, x4, x5, x6, x7, x8, x9, x10, x11, _, x13, _, _, x16, x17, x19, x20, rfl, P19_step (i := 15) (x' := v') hF.out trivial (show 15 < 21 by decide), ?_, hP.out⟩
                show Q19 B A S (ndC k a b s (.slice A5 j c5)) w.heap.size W6 (L 7) (L 8) (L 14) true (L 18) (L 21) x7 x8 _ v' W'
                rw [l14, l8]
                exact hq8.out.step15 hO' hg'
              | 16, _ =>
                obtain rfl := Option.some.inj ho
                have l0 : L 0 = true := dep_of hd (n := 0) (by decide)
                obtain rfl := (hF.out 0 l0 : x0 = _)
                clear hd ho hi l0
                go_simp
                exact hK.out _ _ ⟨_, x1, x2, x3, x4, x5, x6, x7, x8, x9, x10, x11, x12, x13, x14, x15, _, x17, x19, x20, rfl, P19_step (i := 16) (x' := .pointer (some ⟨A.g, 0, none⟩)) hF.out rfl (show 16 < 21 by decide), hQ.out, hP.out⟩
              | 17, _ =>
                obtain rfl := Option.some.inj ho
                have l16 : L 16 = true := dep_of hd (n := 16) (by decide)
                obtain rfl := (hF.out 16 l16 : x16 = _)
                clear hd ho hi l16
                go_simp
                exact hK.out _ _ ⟨x0, x1, x2, x3, x4, x5, x6, x7, x8, x9, x10, x11, x12, x13, x14, x15, _, _, x19, x20, rfl, P19_step (i := 17) (x' := .pointer (some ⟨A.g, 0, none⟩)) hF.out rfl (show 17 < 21 by decide), hQ.out, hP.out⟩
              | 18, _ =>
                obtain rfl := Option.some.inj ho
                have l17 : L 17 = true := dep_of hd (n := 17) (by decide)
                obtain rfl := (hF.out 17 l17 : x17 = _)
                have l8 : L 8 = true := dep_of hd (n := 8) (by decide)
                have l15 : L 15 = true := dep_of hd (n := 15) (by decide)
                have l5 : L 5 = true := dep_of hd (n := 5) (by decide)
                obtain rfl := (hF.out 5 l5 : x5 = _)
                have hQ8 := hQ.out
                rw [hLi, l15] at hQ8
                obtain ⟨A8, c8, e8, _⟩ := (hQ8.n1 l8).rws
                have e8' : x8 = .slice A8 (A.N.length + 1) c8 := by rw [e8]; simp
                clear e8
                subst e8'
                have hcc0 := cell_of_row W A.g 0 _ _ _ hQ8.blk
                have hcc : W.cell? ⟨A.g, 0, none⟩ = some A.vn := hcc0
                have hff := frozen_of_row W A.g 0 _ _ hQ8.blk
                have hq8 := Lib.hid hQ8.step18
                rw [e1h.out] at hcc
                clear hQ8 hcc0
                clear hd ho hi l17 l8
                go_simp
                refine hK.out _ _ ⟨x0, x1, x2, x3, x4, _, x6, x7, _, x9, x10, x11, x12, x13, x14, x15, x16, _, x19, x20, rfl, P19_pass (i := 18) hF.out (fun _ => trivial), ?_, (fun h => by have h' : L 5 = false := h; rw [l5] at h'; cases h'), hP.out.2⟩
                show Q19 B A S (ndC k a b s (.slice A5 j c5)) w.heap.size W6 (L 7) (L 8) (L 14) (L 15) true (L 21) x7 _ x14 x15 _
                rw [l15]
                exact hq8.out
              | 19, _ =>
                obtain rfl := Option.some.inj ho
                have l1 : L 1 = true := dep_of hd (n := 1) (by decide)
                obtain rfl := (hF.out 1 l1 : x1 = _)
                clear hd ho hi l1
                go_simp
                exact hK.out _ _ ⟨x0, _, x2, x3, x4, x5, x6, x7, x8, x9, x10, x11, x12, x13, x14, x15, x16, x17, _, x20, rfl, P19_step (i := 19) (x' := .pointer (some ⟨A.g, 0, none⟩)) hF.out rfl (show 19 < 21 by decide), hQ.out, hP.out⟩
              | 20, _ =>
                obtain rfl := Option.some.inj ho
                have l19 : L 19 = true := dep_of hd (n := 19) (by decide)
                obtain rfl := (hF.out 19 l19 : x19 = _)
                clear hd ho hi l19
                go_simp
                exact hK.out _ _ ⟨x0, x1, x2, x3, x4, x5, x6, x7, x8, x9, x10, x11, x12, x13, x14, x15, x16, x17, _, _, rfl, P19_step (i := 20) (x' := .pointer (some ⟨A.g, 1, none⟩)) hF.out rfl (show 20 < 21 by decide), hQ.out, hP.out⟩
              | 21, _ =>
                obtain rfl := Option.some.inj ho
                have l20 : L 20 = true := dep_of hd (n := 20) (by decide)
                obtain rfl := (hF.out 20 l20 : x20 = _)
                have l15 : L 15 = true := dep_of hd (n := 15) (by decide)
                have l18 : L 18 = true := dep_of hd (n := 18) (by decide)
                have l12 : L 12 = true := dep_of hd (n := 12) (by decide)
                obtain rfl := (hF.out 12 l12 : x12 = _)
                have hQ8 := hQ.out
                rw [hLi, l18] at hQ8
                obtain ⟨A15, c15, e15, _⟩ := (hQ8.s1 l15).rws
                have e15' : x15 = .slice A15 (A.N.length + 1) c15 := by rw [e15]; simp
                clear e15
                subst e15'
                have hcc0 := cell_of_row W A.g 1 _ _ _ hQ8.blk
                have hcc : W.cell? ⟨A.g, 1, none⟩ = some A.vs := hcc0
                have hff := frozen_of_row W A.g 1 _ _ hQ8.blk
                have hq8 := Lib.hid hQ8.step21
                rw [e2h.out] at hcc
                clear hQ8 hcc0
                clear hd ho hi l20 l15
                go_simp
                refine hK.out _ _ ⟨x0, x1, x2, x3, x4, x5, x6, x7, x8, x9, x10, x11, _, x13, x14, _, x16, x17, x19, _, rfl, P19_pass (i := 21) hF.out (fun _ => trivial), ?_, hP.out.1, (fun h => by have h' : L 12 = false := h; rw [l12] at h'; cases h')⟩
                show Q19 B A S (ndC k a b s (.slice A5 j c5)) w.heap.size W6 (L 7) (L 8) (L 14) (L 15) (L 18) true x7 x8 x14 _ _
                rw [l18]
                exact hq8.out
            case hdone =>
              rintro L ac W7 ⟨x0, x1, x2, x3, x4, x5, x6, x7, x8, x9, x10, x11, x12, x13, x14, x15, x16, x17, x19, x20, rfl, hF, hQ, _⟩ hall
              obtain rfl := (hF 0 (hall 0 (show 0 < 22 by decide)) : x0 = _)
              obtain rfl := (hF 1 (hall 1 (show 1 < 22 by decide)) : x1 = _)
              obtain rfl := (hF 2 (hall 2 (show 2 < 22 by decide)) : x2 = _)
              obtain rfl := (hF 3 (hall 3 (show 3 < 22 by decide)) : x3 = _)
              obtain rfl := (hF 4 (hall 4 (show 4 < 22 by decide)) : x4 = _)
              obtain rfl := (hF 5 (hall 5 (show 5 < 22 by decide)) : x5 = _)
              obtain rfl := (hF 6 (hall 6 (show 6 < 22 by decide)) : x6 = _)
              obtain rfl := (hF 9 (hall 9 (show 9 < 22 by decide)) : x9 = _)
              obtain rfl := (hF 10 (hall 10 (show 10 < 22 by decide)) : x10 = _)
              obtain rfl := (hF 11 (hall 11 (show 11 < 22 by decide)) : x11 = _)
              obtain rfl := (hF 12 (hall 12 (show 12 < 22 by decide)) : x12 = _)
              obtain rfl := (hF 13 (hall 13 (show 13 < 22 by decide)) : x13 = _)
              obtain rfl := (hF 16 (hall 16 (show 16 < 22 by decide)) : x16 = _)
              obtain rfl := (hF 17 (hall 17 (show 17 < 22 by decide)) : x17 = _)
              obtain rfl := (hF 19 (hall 19 (show 19 < 22 by decide)) : x19 = _)
              obtain rfl := (hF 20 (hall 20 (show 20 < 22 by decide)) : x20 = _)
              rw [hall 7 (show 7 < 22 by decide), hall 8 (show 8 < 22 by decide), hall 14 (show 14 < 22 by decide), hall 15 (show 15 < 22 by decide), hall 18 (show 18 < 22 by decide), hall 21 (show 21 < 22 by decide)] at hQ
              have hQ := Lib.hid hQ
              clear hF hall
              dsimp only
              obtain ⟨D, hD6, hDo⟩ := hA6.out.map
              have hD7 := Lib.hid (hQ.out.map7 hA6.out hD6)
              have hDo := Lib.hid hDo
              have hK7 := Lib.hid (show W7.heap[g8]? = some (.cells #[.int .i64 k, .int .i64 a, .int .i64 b, .string (bs s), .string (bs (joinL xs))] 142 (0, 0)) from (hQ.out.kp.block g8 (Array.getElem?_eq_some_iff.1 hK6.out).1 (fun hf => by
                rcases F19_typ hA6.out hf with h | h | h <;> exact (show Typ W6 g8 _ from ⟨_, _, hK6.out⟩).ne h (by decide) rfl)).trans hK6.out)
              have hc2 : W7.cell? ⟨A.g, 2, none⟩ = some (.map (some A.bm)) := by rw [cell_of_row W7 A.g 2 _ _ _ hQ.out.blk]; rfl
              have hlS := fun q => ldS_run (w := W7.drewN q) hK7.out rfl
              have hlS0 := ldS_run (w := W7) hK7.out rfl
              have hlS1 := ldS_run (w := W7.drew) hK7.out rfl
              obtain ⟨W8, hup, hown8, hg8⟩ := (show W7.drew.ownsMap Tryz.prog 142 (plainElem Tryz.prog 33) A.bm A.N.length D from hD7.out).update sh_law Tryz.underlying60 (show A.N.length < maxLen by unfold maxLen; omega) hklh.out (plainElem_int (a := (A.N.length : Int)) Tryz.underlying33 (nat_wf (by omega)))
              have hup : (Instr.mapUpdate 60 (.map (some A.bm)) (.agg #[.int .i64 k, .int .i64 a, .int .i64 b, .string (bs s), .string (bs (joinL xs))]) (.int .i64 A.N.length)).run Tryz.prog W7.drew = .ok () W8 := hup
              have hEnd := Lib.hid (put_end hHH.out hB6.out hA6.out hQ.out hI6.out hv5h.out hD7.out hDo.out hown8 ((Keeps.of_below (show Below W7.heap.size W7 W7.drew from drewN_below 1)).trans (Keeps.of_grown hg8 fun q hq => hq)) hklh.out hfree.out hnew.out (hok _ hmkh.out) hSh.out hsmall hin.out hxs hN99.out)
              clear hD6
              go_wp2_with fail
              go_region_with fail
              all_goals
                (try go_wp2_with fail)
                go_ret
                rw [hmkh.out]
                obtain ⟨A', hG, hNm⟩ := hEnd.out
                exact ⟨A', _, rfl, hG, hNm⟩
end Go.Proofs.YtphnakdgpilcmaaGreatDoor
