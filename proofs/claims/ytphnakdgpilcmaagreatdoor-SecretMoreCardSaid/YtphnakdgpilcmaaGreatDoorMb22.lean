/- SecretMore: the walk of the law. (printed by wip/gen_sdd.py) -/
import Derived.Test.YtphnakdgpilcmaaGreatDoorMb21
import Derived.Deep.CutBlock
import Derived.Deep.DeepCutAuto
namespace Go.Proofs.YtphnakdgpilcmaaGreatDoor
open Go.RowKit Go.Maps

theorem MindF.grownT {w0 W W' : World} {g m b : Nat} {L : List Tm} {known sent : List (Option Tm)} {its : List It} {ls : List Tm} {row : Option Nat} (h : MindF w0 g W m b L known sent its ls) (hB : Below w0.heap.size w0 W') (hg : W.grownBy W' row) (hr : ∀ q, row = some q → Typ W q 33) : MindF w0 g W' m b L known sent its ls := by
  obtain ⟨⟨⟨A, c, h1⟩, h2, h3, h4⟩, vn, vs, bm, h5, h6⟩ := h
  exact ⟨⟨⟨A, c, hB, block_grown h1.blk hg hr (by decide), h1.ge, h1.bge, OwnR.grown_ h1.own hg hr (by decide), h1.map.grownT hg hr, h1.few, h1.wf⟩, h2, h3, h4⟩, vn, vs, bm, block_grown h5 hg hr (by decide), h6⟩
theorem canO_iff {ls : List Tm} {o : Option Tm} : canO ls o ↔ ∃ t, o = some t ∧ der ls t := Iff.rfl
theorem haveL_app {known sent : List (Option Tm)} {o : Option Tm} {t : Tm} : t ∈ haveL known (sent ++ [o]) ↔ t ∈ haveL known sent ∨ o = some t := by
  rw [haveL_mem, haveL_mem, List.mem_append, List.mem_singleton]
  constructor
  · rintro (h | h | h)
    · exact .inl (.inl h)
    · exact .inl (.inr h)
    · exact .inr h.symm
  · rintro ((h | h) | h)
    · exact .inl h
    · exact .inr (.inl h)
    · exact .inr (.inr h.symm)
/-- What the law says of two minds. -/
theorem more_law {known sent : List (Option Tm)} {lx ly : List Tm} {ot : Option Tm} (hx : Mind (haveL known sent) lx) (hy : Mind (haveL known (sent ++ [ot])) ly) (hok : ∀ t ∈ haveL known (sent ++ [ot]), t.ok) {o : Option Tm} (ho : okO o) :
    (canO lx o → canO ly o) ∧ ((canO lx ot ∨ ot = none) → canO ly o → canO lx o) ∧ (∀ t, ot = some t → t ∈ ly) := by
  refine ⟨fun ⟨t, h1, h2⟩ => ⟨t, h1, hx.more hy (fun u hu => haveL_app.2 (.inl hu)) h2⟩, fun hc ⟨t, h1, h2⟩ => ⟨t, h1, ?_⟩, fun t h => hy.all t (haveL_app.2 (.inr h))⟩
  refine hx.nothing hy hok (fun u hu => ?_) (ho t h1) h2
  rcases haveL_app.1 hu with hu | hu
  · exact der_had (hx.all u hu)
  · rcases hc with ⟨v, h3, h4⟩ | h3
    · rw [hu] at h3; obtain rfl := Option.some.inj h3; exact h4
    · rw [hu] at h3; cases h3
theorem nm_pick33 {L : List Tm} {l : List Int} {os : List (Option Tm)} (h : NmL L l os) (i : Int) : Nm L (pkI l i) (pkO os i) := by
  refine ⟨h.pick i, fun e => ?_⟩
  unfold pkI pkO at *
  split
  · rfl
  · rename_i hi
    rw [if_neg hi] at e
    cases hx : l[i.toNat]? with
    | none => rfl
    | some x =>
      have hl := (List.getElem?_eq_some_iff.1 hx).1
      obtain ⟨o, ho⟩ : ∃ o, os[i.toNat]? = some o := ⟨os[i.toNat]'(by rw [← h.len]; exact hl), List.getElem?_eq_getElem _⟩
      rw [ho] at e
      exact (h.nm _ x o hx ho).2 e
theorem nm_none33 {L : List Tm} {x : Int} {o : Option Tm} (h : Nm L x o) : (o = none → (x == -1) = true) ∧ (o ≠ none → (x == -1) = false) := by
  refine ⟨fun e => by rw [h.2 e]; rfl, fun e => ?_⟩
  rw [beq_eq_false_iff_ne]
  intro hx
  apply e
  rw [← h.1, hx]
  exact get_neg (by decide)
attribute [local go_sem ↓] ldMd_eq
def dsSd18a : List (Option Nat) := [some 85, some 86, some 87, some 88, some 89, some 90, some 91, some 92, some 93, some 94, some 95, some 96, some 97, some 98, some 99, some 100, some 101, some 102, some 103, some 104, some 105, some 106, some 107, some 108, some 109, some 110, some 111, some 112, some 113, some 114, some 115, some 116, some 117, some 118, some 119, some 120, some 121]
def tbSd18a : List (List Nat) := [[], [], [1], [], [2, 3], [4], [0, 5], [6], [7], [7], [7, 9], [7], [7, 10, 11], [7, 12], [7, 8, 13], [7, 14], [7, 15], [16], [17], [17, 18], [19], [19], [19, 21], [19], [19, 22, 23], [19, 24], [19, 20, 25], [19], [19], [19, 28], [19], [19, 29, 30], [19, 31], [19, 27, 32], [19, 26, 33], [17, 19, 34], [17, 35]]
def vsSd18a (q : Nat) (b1 : Nat) (o1 : Nat) (n : Nat) (cI : Nat) (k : Nat) (x : Int) (mx : Nat) (my : Nat) : List (Option Value) := [some (.pointer (some ⟨mx, 0, none⟩)), some (.pointer (some ⟨q, 0, none⟩)), some (.slice (some ⟨b1, o1, none⟩) n cI), some (.int .i64 k), some (.pointer (some ⟨b1, o1 + k, none⟩)), some (.int .i64 x), some (.bool false), some (.bool false), some (undef), some (undef), some (undef), some (undef), some (undef), some (undef), some (undef), some (undef), some (.bool false), some (.bool false), some (.bool false), some (.bool false), some (undef), some (undef), some (undef), some (undef), some (undef), some (undef), some (undef), some (undef), some (undef), some (undef), some (undef), some (undef), some (undef), some (undef), some (undef), some (.bool false), some (.bool false)]
def dsSd18b : List (Option Nat) := [some 85, some 86, some 87, some 88, some 89, some 90, some 91, some 92, some 93, some 94, some 95, some 96, some 97, some 98, some 99, some 100, some 101, some 102, some 103, some 104, some 105, some 106, some 107, some 108, some 109, some 110, some 111, some 112, some 113, some 114, some 115, some 116, some 117, some 118, some 119, some 120, some 121]
def tbSd18b : List (List Nat) := [[], [], [1], [], [2, 3], [4], [0, 5], [6], [7], [7], [7, 9], [7], [7, 10, 11], [7, 12], [7, 8, 13], [7, 14], [7, 15], [16], [17], [17, 18], [19], [19], [19, 21], [19], [19, 22, 23], [19, 24], [19, 20, 25], [19], [19], [19, 28], [19], [19, 29, 30], [19, 31], [19, 27, 32], [19, 26, 33], [17, 19, 34], [17, 35]]
def vsSd18b (q : Nat) (b1 : Nat) (o1 : Nat) (n : Nat) (cI : Nat) (k : Nat) (x : Int) (mx : Nat) (my : Nat) : List (Option Value) := [some (.pointer (some ⟨mx, 0, none⟩)), some (.pointer (some ⟨q, 0, none⟩)), some (.slice (some ⟨b1, o1, none⟩) n cI), some (.int .i64 k), some (.pointer (some ⟨b1, o1 + k, none⟩)), some (.int .i64 x), some (.bool false), some (.bool false), some (undef), some (undef), some (undef), some (undef), some (undef), some (undef), some (undef), some (undef), some (.bool false), some (.bool false), some (.bool true), some (.bool true), some (.pointer (some ⟨mx, 0, none⟩)), some (.pointer (some ⟨q, 0, none⟩)), some (.slice (some ⟨b1, o1, none⟩) n cI), some (.int .i64 k), some (.pointer (some ⟨b1, o1 + k, none⟩)), some (.int .i64 x), some (.bool false), some (.pointer (some ⟨my, 0, none⟩)), some (.pointer (some ⟨q, 0, none⟩)), some (.slice (some ⟨b1, o1, none⟩) n cI), some (.int .i64 k), some (.pointer (some ⟨b1, o1 + k, none⟩)), some (.int .i64 x), some (.bool false), some (.bool false), some (.bool false), some (.bool false)]
def dsSd18c : List (Option Nat) := [some 85, some 86, some 87, some 88, some 89, some 90, some 91, some 92, some 93, some 94, some 95, some 96, some 97, some 98, some 99, some 100, some 101, some 102, some 103, some 104, some 105, some 106, some 107, some 108, some 109, some 110, some 111, some 112, some 113, some 114, some 115, some 116, some 117, some 118, some 119, some 120, some 121]
def tbSd18c : List (List Nat) := [[], [], [1], [], [2, 3], [4], [0, 5], [6], [7], [7], [7, 9], [7], [7, 10, 11], [7, 12], [7, 8, 13], [7, 14], [7, 15], [16], [17], [17, 18], [19], [19], [19, 21], [19], [19, 22, 23], [19, 24], [19, 20, 25], [19], [19], [19, 28], [19], [19, 29, 30], [19, 31], [19, 27, 32], [19, 26, 33], [17, 19, 34], [17, 35]]
def vsSd18c (q : Nat) (b1 : Nat) (o1 : Nat) (n : Nat) (cI : Nat) (k : Nat) (x : Int) (mx : Nat) (my : Nat) : List (Option Value) := [some (.pointer (some ⟨mx, 0, none⟩)), some (.pointer (some ⟨q, 0, none⟩)), some (.slice (some ⟨b1, o1, none⟩) n cI), some (.int .i64 k), some (.pointer (some ⟨b1, o1 + k, none⟩)), some (.int .i64 x), some (.bool false), some (.bool false), some (undef), some (undef), some (undef), some (undef), some (undef), some (undef), some (undef), some (undef), some (.bool false), some (.bool false), some (.bool false), some (.bool false), some (undef), some (undef), some (undef), some (undef), some (undef), some (undef), some (undef), some (undef), some (undef), some (undef), some (undef), some (undef), some (undef), some (undef), some (undef), some (.bool false), some (.bool false)]
def dsSd18d : List (Option Nat) := [some 85, some 86, some 87, some 88, some 89, some 90, some 91, some 92, some 93, some 94, some 95, some 96, some 97, some 98, some 99, some 100, some 101, some 102, some 103, some 104, some 105, some 106, some 107, some 108, some 109, some 110, some 111, some 112, some 113, some 114, some 115, some 116, some 117, some 118, some 119, some 120, some 121]
def tbSd18d : List (List Nat) := [[], [], [1], [], [2, 3], [4], [0, 5], [6], [7], [7], [7, 9], [7], [7, 10, 11], [7, 12], [7, 8, 13], [7, 14], [7, 15], [16], [17], [17, 18], [19], [19], [19, 21], [19], [19, 22, 23], [19, 24], [19, 20, 25], [19], [19], [19, 28], [19], [19, 29, 30], [19, 31], [19, 27, 32], [19, 26, 33], [17, 19, 34], [17, 35]]
def vsSd18d (q : Nat) (b1 : Nat) (o1 : Nat) (n : Nat) (cI : Nat) (k : Nat) (x : Int) (mx : Nat) (my : Nat) : List (Option Value) := [some (.pointer (some ⟨mx, 0, none⟩)), some (.pointer (some ⟨q, 0, none⟩)), some (.slice (some ⟨b1, o1, none⟩) n cI), some (.int .i64 k), some (.pointer (some ⟨b1, o1 + k, none⟩)), some (.int .i64 x), some (.bool true), some (.bool true), some (.pointer (some ⟨my, 0, none⟩)), some (.pointer (some ⟨q, 0, none⟩)), some (.slice (some ⟨b1, o1, none⟩) n cI), some (.int .i64 k), some (.pointer (some ⟨b1, o1 + k, none⟩)), some (.int .i64 x), some (.bool true), some (.bool false), some (.bool false), some (.bool false), some (.bool false), some (.bool false), some (undef), some (undef), some (undef), some (undef), some (undef), some (undef), some (undef), some (undef), some (undef), some (undef), some (undef), some (undef), some (undef), some (undef), some (undef), some (.bool false), some (.bool false)]
def dsSd18e : List (Option Nat) := [some 85, some 86, some 87, some 88, some 89, some 90, some 91, some 92, some 93, some 94, some 95, some 96, some 97, some 98, some 99, some 100, some 101, some 102, some 103, some 104, some 105, some 106, some 107, some 108, some 109, some 110, some 111, some 112, some 113, some 114, some 115, some 116, some 117, some 118, some 119, some 120, some 121]
def tbSd18e : List (List Nat) := [[], [], [1], [], [2, 3], [4], [0, 5], [6], [7], [7], [7, 9], [7], [7, 10, 11], [7, 12], [7, 8, 13], [7, 14], [7, 15], [16], [17], [17, 18], [19], [19], [19, 21], [19], [19, 22, 23], [19, 24], [19, 20, 25], [19], [19], [19, 28], [19], [19, 29, 30], [19, 31], [19, 27, 32], [19, 26, 33], [17, 19, 34], [17, 35]]
def vsSd18e (q : Nat) (b1 : Nat) (o1 : Nat) (n : Nat) (cI : Nat) (k : Nat) (x : Int) (mx : Nat) (my : Nat) : List (Option Value) := [some (.pointer (some ⟨mx, 0, none⟩)), some (.pointer (some ⟨q, 0, none⟩)), some (.slice (some ⟨b1, o1, none⟩) n cI), some (.int .i64 k), some (.pointer (some ⟨b1, o1 + k, none⟩)), some (.int .i64 x), some (.bool true), some (.bool true), some (.pointer (some ⟨my, 0, none⟩)), some (.pointer (some ⟨q, 0, none⟩)), some (.slice (some ⟨b1, o1, none⟩) n cI), some (.int .i64 k), some (.pointer (some ⟨b1, o1 + k, none⟩)), some (.int .i64 x), some (.bool true), some (.bool false), some (.bool false), some (.bool false), some (.bool true), some (.bool true), some (.pointer (some ⟨mx, 0, none⟩)), some (.pointer (some ⟨q, 0, none⟩)), some (.slice (some ⟨b1, o1, none⟩) n cI), some (.int .i64 k), some (.pointer (some ⟨b1, o1 + k, none⟩)), some (.int .i64 x), some (.bool true), some (.pointer (some ⟨my, 0, none⟩)), some (.pointer (some ⟨q, 0, none⟩)), some (.slice (some ⟨b1, o1, none⟩) n cI), some (.int .i64 k), some (.pointer (some ⟨b1, o1 + k, none⟩)), some (.int .i64 x), some (.bool true), some (.bool false), some (.bool false), some (.bool false)]
set_option maxRecDepth 100000 in
set_option maxHeartbeats 8000000 in
theorem secretMore_any (ms : List Mk) (A : Option Addr) (n c : Nat) (c0 c1 c2 i : Int) (w : World) (hn : n ≤ 9223372036854775807) (H : Rws w 5 A n (ms.map Mk.row)) :
    Calls Tryz.prog 3 #[.slice A n c, .agg (cutC c0 c1 c2), .int .i64 i] w fun r w' => r = .returned (.bool true) ∧ Below w.heap.size w w' := by
  have hbW := below_new w (.cells (cutC c0 c1 c2) 23)
  have hx1 := heap_new w (.cells (cutC c0 c1 c2) 23)
  have H1 := H.keep hbW
  have hml : ms.length = n := by have := H.1; simpa using this
  obtain ⟨W1, hW1⟩ : ∃ W1, W1 = w.alloc (.cells (cutC c0 c1 c2) 23) := ⟨_, rfl⟩
  rw [← hW1] at hx1 hbW H1
  have hld := Lib.hid (rangeAt_list (cs := [.int .i64 c0, .int .i64 c1, .int .i64 c2]) hx1)
  have hp := Lib.hid hbW
  have cF := few33_any ms A n c c0 c1 c2 W1 hn H1
  unfold cutC at cF
  have cA := Lib.hid (fun W => awake33 W)
  have hx1h := Lib.hid hx1
  have Hh := Lib.hid H1
  obtain ⟨j0, hj0, hj1, hj2, hj3⟩ := info_parts id_info
  clear H hx1 hbW H1
  cases hf : few33B ms c0 c1 c2 with
  | false =>
    rw [hf] at cF
    replace cF := Lib.hid cF
    clear hf hml
    go_enter Tryz.func3, Tryz.ntmps3
    go_upto_region 1 with fail
    rw [← hW1]
    clear hW1
    go_wp2_with (first
      | (refine wpList_load_at 23 (.tmp 4) rfl rfl w.heap.size 0 rfl [.int .i64 c0, .int .i64 c1, .int .i64 c2] _ hld.out Tryz.underlying23 rfl (by kernel_rfl) ?_)
      | (go_at_call 7; (with_reducible refine cF.out.mono ?_); rintro r w2 ⟨rfl, hb2⟩; replace hb2 := Lib.hid (hp.out.trans (hb2.mono hp.out.size)))
      | (go_at_call 8; refine (cA.out _).mono ?_; rintro r w3 ⟨rfl, hb3⟩))
    go_ret
    exact ⟨rfl, hb2.out.trans (hb3.mono hb2.out.size)⟩
  | true =>
    rw [hf] at cF
    obtain ⟨hn20, h200, ka, kb, kc, rfl, rfl, rfl, hab, hbc, hcn⟩ := few33_iff.1 hf
    rw [hml] at hn20 hcn
    have h200 := Lib.hid h200
    have hmlh := Lib.hid hml
    have habc := Lib.hid (And.intro hab (And.intro hbc hcn))
    replace cF := Lib.hid cF
    clear hf hml hn hab hbc hcn
    go_enter Tryz.func3, Tryz.ntmps3
    go_upto_region 1 with fail
    rw [← hW1]
    clear hW1
    go_upto_region 4 with (first
      | (refine wpList_load_at 23 (.tmp 4) rfl rfl w.heap.size 0 rfl [.int .i64 (ka : Int), .int .i64 (kb : Int), .int .i64 (kc : Int)] _ hld.out Tryz.underlying23 rfl (by kernel_rfl) ?_)
      | (go_at_call 7; (with_reducible refine cF.out.mono ?_); rintro r w2 ⟨rfl, hb2⟩; have cN := Lib.hid (tnew_any w2); replace hb2 := Lib.hid hb2)
      | (go_at_call 9; refine cN.out.mono ?_; rintro r w1 ⟨A0, rfl, hN, hA, hb⟩
         have hS0 := St.start hN hA hb
         have cM := Lib.hid (makes_any (c := c) ms w2 w1 A0.g (by omega) h200.out (Hh.out.keep hb2.out) hS0)
         have hz1 := Lib.hid hb.size
         have hb2w := Lib.hid (hp.out.trans (hb2.out.mono hp.out.size))
         have hx2 := Lib.hid ((hb2.out.block w.heap.size (Array.getElem?_eq_some_iff.1 hx1h.out).1).trans hx1h.out)
         clear hN hA hb cN hS0 cF
         generalize A0.g = g at *))
    go_upto_region 5 with (first
      | (go_at_call 10; refine cM.out.mono ?_; rintro r w3 hR
         obtain ⟨AI, cI, AT, cT, l, L, rfl, hMd, hL, hnew, hone, hrow⟩ := md_new hmlh.out hz1.out hR
         unfold boxW at hMd
         have hMdh := Lib.hid hMd
         have hnewh := Lib.hid hnew
         have honeh := Lib.hid hone
         have hLn := Lib.hid hL
         clear hR hnew hone hrow cM hMd)
      | (refine wpList_store_at 31 _ _ rfl rfl w3.heap.size #[.slice AI n cI, .slice AT n cT] rfl rfl 31 #[.slice none 0 0, .slice none 0 0] hnewh.out (by kernel_rfl) rfl honeh.out ?_))
    generalize ((w3.alloc (.cells #[.slice none 0 0, .slice none 0 0] 31)).setRow w3.heap.size #[.slice AI n cI, .slice AT n cT]) = W4 at *
    generalize w3.heap.size = q at *
    generalize mksO ms [] = os at *
    clear hnewh honeh hld hp hb2 hz1 Hh hx1h
    obtain ⟨p0, hp0⟩ : ∃ p0, w.heap.size = p0 := ⟨_, rfl⟩
    rw [hp0] at hx2 ⊢
    -- what stands at every later world
    have hcI := (hMdh.out.sub3 (lo := 0) (hi := 0) (Nat.zero_le _)).2
    have hs1 := slLH_run3 28 u_ids3 z_ids3 AI n cI ka kb (by have := habc.out; omega) (by have := habc.out; omega)
    have hAt := Lib.hid (fun (W' : World) (hb : Below W4.heap.size W4 W') => (by
      have hM' := hMdh.out.below hb
      have h2 := (hM'.st.below.block p0 (Array.getElem?_eq_some_iff.1 hx2.out).1).trans hx2.out
      exact ⟨hM'.c0, cell_of_row W' p0 0 _ _ _ h2, cell_of_row W' p0 1 _ _ _ h2, cell_of_row W' p0 2 _ _ _ h2, hM'.st, (hM'.sub3 (lo := ka) (hi := kb) (by have := habc.out; omega)).1.ints, hM'.ints⟩ :
      W'.cell? ⟨q, 0, none⟩ = some (.slice AI n cI) ∧ W'.cell? ⟨p0, 0, none⟩ = some (.int .i64 ka) ∧ W'.cell? ⟨p0, 1, none⟩ = some (.int .i64 kb) ∧ W'.cell? ⟨p0, 2, none⟩ = some (.int .i64 kc) ∧ St w2 g W' L ∧ Ints W' (behind3 AI ka cI) (kb - ka) (subL ka kb l) ∧ Ints W' AI n l))
    have hnm := Lib.hid (And.intro (hMdh.out.ml.toNmL.sub3 ka kb) hMdh.out.ml.toNmL)
    have hkk := Lib.hid (show kb - ka ≤ 1000 by have := habc.out; omega)
    have hlo := Lib.hid (And.intro hMdh.out.ll hMdh.out.lo)
    have hrw := Lib.hid (hMdh.out.row)
    have cP := pick_any (c := cI) (d := cT) i W4 (by omega) hMdh.out.made
    unfold madeV at cP
    have ht := Lib.hid (nm_pick33 hMdh.out.ml.toNmL i)
    generalize pkI l i = tx at *
    generalize pkO os i = ot at *
    generalize bs (encO ot) = tt at *
    replace cP := Lib.hid cP
    have hdm := Lib.hid (hMdh.out.st.below)
    clear hcI hMdh
    have hld4 := ldMd_run hrw.out
    go_upto_region 7 with (go_at_call 11; (with_reducible refine cP.out.mono ?_); rintro r w5 ⟨rfl, hb5⟩; replace hb5 := Lib.hid hb5)
    clear cP hld4 hrw
    obtain ⟨e0, e1, e2, e3, -, -, -⟩ := hAt.out w5 hb5.out
    have hO0 : Hid (OwnD w5 W4.heap.size (.slice none 0 0) (subL kb kb l)) := by
      have : subL kb kb l = [] := by unfold subL; simp
      rw [this]
      exact OwnR.nil_ w5 W4.heap.size 1 33
    go_wp2_with fail
    clear e0 e1 e2 e3
    go_loopw [11, 12] (fun v kv wr => ∃ j : Nat, kb ≤ j ∧ j ≤ kc ∧ kv = .int .i64 j ∧ Hid (OwnD wr W4.heap.size v (subL kb j l)) ∧ Hid (Below W4.heap.size W4 wr)) (fun _ kv _ => kc - (intOf kv).toNat)
    case atStart => exact ⟨kb, Nat.le_refl _, habc.out.2.1, rfl, hO0, hb5⟩
    case round =>
      clear hO0 hb5
      obtain ⟨j, hkj, hjk, rfl, hO, hb⟩ := hrel
      obtain ⟨e0, e1, e2, e3, hSr, hIk, hIl⟩ := hAt.out wr hb.out
      by_cases hlt : j < kc
      · have hlt' : (j : Int) < (kc : Int) := by omega
        obtain ⟨b1, o1, x, rfl, hbl, hx, hc⟩ := hIl.at_ (show j < n by have := habc.out; omega)
        have hjn : (j : Int) < (n : Int) := by have := habc.out; omega
        have hsub : subL kb (j + 1) l = subL kb j l ++ [x] := by
          unfold subL
          rw [show j + 1 - kb = (j - kb) + 1 by omega]
          exact take_succ_of (by rw [List.getElem?_drop, show kb + (j - kb) = j by omega]; exact hx)
        obtain ⟨Av, cv, zs, ev, hzl, hOn, hup⟩ := hO.out.next x
        have hzs : (subL kb j l).length ≤ 20 := by unfold subL; rw [List.length_take, List.length_drop]; have := hlo.out.1; omega
        subst ev
        have hzb : zs.length ≤ 1000 := by omega
        have hBn := Lib.hid (hb.out.trans ((below_new wr (.cells #[.int .i64 x] 33)).mono hb.out.size))
        have hrow := Lib.hid (rangeAt_list (heap_new wr (.cells [Value.int .i64 x].toArray 33)))
        replace hOn := Lib.hid hOn
        replace hup := Lib.hid hup
        replace hsub := Lib.hid hsub
        obtain ⟨mv, hmv⟩ : ∃ mv, (subL kb j l).length = mv := ⟨_, rfl⟩
        rw [hmv] at hOn hzl hzs ⊢
        have hmv2 : zs.length = mv := hzl
        replace hmv2 := Lib.hid hmv2
        clear hx hO hzl hmv hSr hIk hIl
        go_upto_region 9 with (at_builtin; refine wpList_append_one rfl _ _ 28 rfl 33 j0 _ 1 8 Tryz.underlying28 hj0 hj1 hj2 hj3 rfl (by decide) W4 hBn.out _ zs rfl hOn.out wr.heap.size 1 [.int .i64 x] rfl hrow.out rfl (by simp; rfl) (by unfold maxLen; omega) (by omega) ?_; intro v2 w6 hO2 hB2 hg2)
        have hO6 := Lib.hid (show OwnD w6 W4.heap.size v2 (subL kb (j + 1) l) by rw [hsub.out]; exact hup.out _ _ hO2)
        replace hB2 := Lib.hid hB2
        clear hO2 hup hOn hBn hrow hg2 hc hsub e0 e1 e2 e3
        go_wp2_with fail
        go_roundw
        case rel => exact ⟨j + 1, by omega, by omega, by go_num, hO6, hB2⟩
        case measure => simp [intOf]; omega
      · have hjc : j = kc := by omega
        subst hjc
        obtain ⟨As, cs, ev, hIs⟩ := hO.out.ints
        have hOs := hO.out
        have hsl : (subL kb j l).length = j - kb := by unfold subL; rw [List.length_take, List.length_drop]; have := hlo.out.1; have := habc.out; omega
        rw [hsl] at ev hIs
        subst ev
        have hnq := Lib.hid (hnm.out.2.sub3 kb j)
        have cX := mnew_any hSr (kc := cI - ka) (sc := cs) hIk hIs hnm.out.1 hnq.out hkk.out (by have := habc.out; omega)
        generalize hlq : subL kb j l = lq at *
        generalize subL kb j os = sent at *
        generalize subL ka kb os = known at *
        replace cX := Lib.hid cX
        have hOsh := Lib.hid hOs
        generalize j - kb = sn at *
        have hsnb := Lib.hid hsl
        have hsn20 : sn ≤ 20 := by rw [← hsl, ← hlq]; unfold subL; rw [List.length_take, List.length_drop]; have := hlo.out.1; omega
        clear hO hIs hOs hsl hlq hSr hIk hIl
        go_upto_region 12 with (go_at_call 12; (with_reducible refine cX.out.mono ?_); rintro r w6 hNew
                                obtain ⟨mx, bx, ix, lx, rfl, hFx, hMx, hS6, hb6⟩ := hNew.fix (hAt.out wr hb.out).2.2.2.2.1
                                have hB6 := Lib.hid (hb.out.trans (hb6.mono hb.out.size))
                                have hFx := Lib.hid hFx
                                have hMx := Lib.hid hMx
                                have hO6 := Lib.hid (OwnR.keep hOsh.out hb6)
                                clear hNew hS6 hb6)
        clear cX hb hOsh e0 e1 e2 e3
        have hti : i64 tx := by have := ht.out.lt; have := hLn.out; exact i64_small (by omega) (by omega)
        obtain ⟨hn1, hn2⟩ := nm_none33 ht.out
        have hnn := Lib.hid (And.intro hn1 hn2)
        clear hn1 hn2
        go_cut [14] from 58 to 64 (fun cv wx => ∃ cb : Bool, cv = .bool cb ∧ (cb = true ↔ canO lx ot ∨ ot = none) ∧ Below w6.heap.size w6 wx)
        case first =>
          have cC := mCan_any hFx.out (hAt.out w6 hB6.out).2.2.2.2.1 tx ot ht.out.1 hti
          by_cases hd : canO lx ot
          · have cC := Lib.hid (Calls.mono cC fun (r : Ending) (W' : World) ⟨q, h1, h2, h3⟩ => (show r = Ending.returned (.bool true) ∧ Below w6.heap.size w6 W' from ⟨by rw [h1, h2.2 hd], h3⟩))
            have hdh := Lib.hid hd
            clear hd
            go_wp2_with (go_at_call 13; (with_reducible refine cC.out.mono ?_); rintro r w7 ⟨rfl, hb7⟩; replace hb7 := Lib.hid hb7)
            go_meet
            exact ⟨true, rfl, by simp only [true_iff]; exact .inl hdh.out, hb7.out⟩
          · have cC := Lib.hid (Calls.mono cC fun (r : Ending) (W' : World) ⟨q, h1, h2, h3⟩ => (show r = Ending.returned (.bool false) ∧ Below w6.heap.size w6 W' from ⟨by rw [h1]; cases q with | false => rfl | true => exact absurd (h2.1 rfl) hd, h3⟩))
            have hdh := Lib.hid hd
            clear hd
            by_cases ho : ot = none
            · have h1 := hnn.out.1 ho
              have hoh := Lib.hid ho
              clear ho
              go_wp2_with (go_at_call 13; (with_reducible refine cC.out.mono ?_); rintro r w7 ⟨rfl, hb7⟩; replace hb7 := Lib.hid hb7)
              go_meet
              exact ⟨true, rfl, by simp only [true_iff]; exact .inr hoh.out, hb7.out⟩
            · have h1 := hnn.out.2 ho
              have hoh := Lib.hid ho
              clear ho
              go_wp2_with (go_at_call 13; (with_reducible refine cC.out.mono ?_); rintro r w7 ⟨rfl, hb7⟩; replace hb7 := Lib.hid hb7)
              go_meet
              exact ⟨false, rfl, ⟨fun h => (by cases h), fun h => h.elim (fun h => absurd h hdh.out) fun h => absurd h hoh.out⟩, hb7.out⟩
        case rest =>
          obtain ⟨cb, rfl, hcb, hbc⟩ := hcut
          have hFc := hFx.out.keep hbc
          have hOc : Hid (OwnD wc W4.heap.size (.slice As sn cs) lq) := OwnR.keep hO6.out hbc
          obtain ⟨Av, cv, zs, ev, hzl, hOn, hup⟩ := hOc.out.next tx
          have hevl : (lq.length : Nat) = sn := hsnb.out
          rw [hevl] at ev hzl
          injection ev with ev1 _ ev3
          subst ev1
          subst ev3
          have hBc := hB6.out.trans (hbc.mono hB6.out.size)
          have hbn := below_new wc (.cells #[.int .i64 tx] 33)
          have hBn := Lib.hid (hBc.trans (hbn.mono hBc.size))
          have hFn := Lib.hid (hFc.keep hbn)
          have hrow := Lib.hid (rangeAt_list (heap_new wc (.cells [Value.int .i64 tx].toArray 33)))
          have hOnt := Lib.hid (fun q (hq : (Value.slice As sn cs).ownBlock = some q) => OwnR.typ hOn hq)
          have hzb : zs.length ≤ 20 := by omega
          replace hOn := Lib.hid hOn
          replace hup := Lib.hid hup
          replace hcb := Lib.hid hcb
          have hzle := Lib.hid hzl
          clear hFc hOc hBc hbn hbc hFx hO6 hB6 hevl hzl
          go_upto_region 14 with (at_builtin; refine wpList_append_one rfl _ _ 28 rfl 33 j0 _ 1 8 Tryz.underlying28 hj0 hj1 hj2 hj3 rfl (by decide) W4 hBn.out _ zs (show _ = Value.slice As sn cs from rfl) hOn.out wc.heap.size 1 [.int .i64 tx] rfl hrow.out rfl (by simp; rfl) (by unfold maxLen; omega) (by omega) ?_; intro v2 w8 hO2 hB2 hg2)
          have hO8 : OwnD w8 W4.heap.size v2 (lq ++ [tx]) := hup.out _ _ hO2
          have hSt8 := (hAt.out w8 hB2).2.2.2.2.1
          have hF8 := Lib.hid (hFn.out.grownT hSt8.below hg2 hOnt.out)
          obtain ⟨A8, c8, ev8, hI8⟩ := hO8.ints
          have hl8 : (lq ++ [tx]).length = sn + 1 := by rw [List.length_append, hsnb.out]; rfl
          rw [hl8] at ev8 hI8
          subst ev8
          obtain ⟨e0, e1, e2, e3, -, hIk, -⟩ := hAt.out w8 hB2
          have cY := Lib.hid (mnew_any hSt8 (kc := cI - ka) (sc := c8) hIk hI8 hnm.out.1 (hnq.out.snoc ht.out) hkk.out (by omega))
          replace hB2 := Lib.hid hB2
          clear hO2 hO8 hOnt hFn hBn hrow hOn hup hg2 hI8 hIk hSt8 hl8
          go_upto_region 15 with (go_at_call 12; (with_reducible refine cY.out.mono ?_); rintro r w9 hNew
                                  obtain ⟨my, bY, iy, ly, rfl, hFy, hMy, hS9, hb9⟩ := hNew.fix (hAt.out w8 hB2.out).2.2.2.2.1
                                  have hB9 := Lib.hid (hB2.out.trans (hb9.mono hB2.out.size))
                                  have hFy := Lib.hid hFy
                                  have hMy := Lib.hid hMy
                                  have hFx := Lib.hid (hF8.out.keep hb9)
                                  clear hNew hS9 hb9)
          clear cY e0 e1 e2 e3 hF8 hB2
          have hok := Lib.hid (show ∀ t ∈ haveL known (sent ++ [ot]), t.ok from fun t h => by
            have hg := (hAt.out w9 hB9.out).2.2.2.2.1.good
            rcases haveL_mem.1 h with h | h
            · exact hnm.out.1.ok hg _ h t rfl
            · rcases List.mem_append.1 h with h | h
              · exact hnq.out.ok hg _ h t rfl
              · rw [List.mem_singleton] at h
                have := hg.okO tx
                rw [ht.out.1, ← h] at this
                exact this t rfl)
          have hlaw := Lib.hid (fun (o : Option Tm) (ho : okO o) => more_law hMx.out hMy.out hok.out ho)
          have h0 := Lib.hid (Below.refl w9.heap.size w9)
          go_wp2_with fail
          go_loopw [16] (fun iv wr => ∃ k : Nat, k ≤ n ∧ iv = .int .i64 k ∧ Hid (Below w9.heap.size w9 wr)) (fun iv _ => n - (intOf iv).toNat)
          case atStart => exact ⟨0, Nat.zero_le _, rfl, h0⟩
          case round =>
            clear h0
            obtain ⟨k, hk, rfl, hb⟩ := hrel
            by_cases hlt : k < n
            · have hlt' : (k : Int) < (n : Int) := by omega
              have hBr := hB9.out.trans (hb.out.mono hB9.out.size)
              obtain ⟨e0, -, -, -, hSr, -, hIl⟩ := hAt.out wr hBr
              obtain ⟨b1, o1, x, rfl, hbl, hx, hc⟩ := hIl.at_ hlt
              obtain ⟨o, ho⟩ : ∃ o, os[k]? = some o := ⟨os[k]'(by rw [hlo.out.2]; exact hlt), List.getElem?_eq_getElem _⟩
              have hxo := hnm.out.2.nm k x o hx ho
              have hoo : okO o := by have := hSr.good.okO x; rwa [hxo.1] at this
              have hxi : i64 x := by have := hxo.lt; have := hLn.out; exact i64_small (by omega) (by omega)
              have hl := hlaw.out o hoo
              obtain ⟨qx, hqx⟩ : ∃ qx : Bool, (qx = true ↔ canO lx o) := by classical exact ⟨decide (canO lx o), by simp⟩
              obtain ⟨qy, hqy⟩ : ∃ qy : Bool, (qy = true ↔ canO ly o) := by classical exact ⟨decide (canO ly o), by simp⟩
              have hcx := Lib.hid (fun W' (h : Below wr.heap.size wr W') => (⟨(h.cell (p := ⟨q, 0, none⟩) (lt_of_cell e0)).trans e0, (h.cell (p := ⟨b1, o1 + k, none⟩) (lt_of_cell hc)).trans hc⟩ : W'.cell? ⟨q, 0, none⟩ = some (.slice (some ⟨b1, o1, none⟩) n cI) ∧ W'.cell? ⟨b1, o1 + k, none⟩ = some (.int .i64 x)))
              have cCx := Lib.hid (fun W' (h : Below wr.heap.size wr W') => Calls.mono (mCan_any ((hFx.out.keep hb.out).keep h) (hSr.keep h) x o hxo.1 hxi) fun (r : Ending) (W2 : World) ⟨q', h1, h2, h3⟩ => (show r = Ending.returned (.bool qx) ∧ Below W'.heap.size W' W2 from ⟨by rw [h1, show q' = qx by rw [Bool.eq_iff_iff, h2, hqx]], h3⟩))
              have cCy := Lib.hid (fun W' (h : Below wr.heap.size wr W') => Calls.mono (mCan_any ((hFy.out.keep hb.out).keep h) (hSr.keep h) x o hxo.1 hxi) fun (r : Ending) (W2 : World) ⟨q', h1, h2, h3⟩ => (show r = Ending.returned (.bool qy) ∧ Below W'.heap.size W' W2 from ⟨by rw [h1, show q' = qy by rw [Bool.eq_iff_iff, h2, hqy]], h3⟩))
              have hcombo : (qx = false ∧ qy = false ∧ cb = false) ∨ (qx = false ∧ qy = false ∧ cb = true) ∨ (qx = false ∧ qy = true ∧ cb = false) ∨ (qx = true ∧ qy = true ∧ cb = false) ∨ (qx = true ∧ qy = true ∧ cb = true) := by
                have h1 : qx = true → qy = true := fun h => hqy.2 (hl.1 (hqx.1 h))
                have h2 : cb = true → qy = true → qx = true := fun h h' => hqx.2 (hl.2.1 (hcb.out.1 h) (hqy.1 h'))
                cases qx <;> cases qy <;> cases cb <;> simp_all
              have hbr := Lib.hid hb.out
              have hknx : (k : Int) < (n : Int) := hlt'
              clear hx ho hxo hoo hl hqx hqy e0 hc hSr hIl hBr hxi
              go_upto_region 18 with fail
              rcases hcombo with ⟨rfl, rfl, rfl⟩ | ⟨rfl, rfl, rfl⟩ | ⟨rfl, rfl, rfl⟩ | ⟨rfl, rfl, rfl⟩ | ⟨rfl, rfl, rfl⟩
              · refine region_iw tbSd18a dsSd18a (vsSd18a q b1 o1 n cI k x mx my) (fun L T W => Below wr.heap.size wr W) rfl (by decide) (by kernel_rfl) ?hlt ?hstep ?hdone ?hstart
                case hstart => exact drewN_below 1
                case hlt =>
                  intro ix o ho
                  have hi := (Array.getElem?_eq_some_iff.1 ho).1
                  match ix, hi with
                  | 0, _ => obtain rfl := Option.some.inj ho; decide
                  | 1, _ => obtain rfl := Option.some.inj ho; decide
                  | 2, _ => obtain rfl := Option.some.inj ho; decide
                  | 3, _ => obtain rfl := Option.some.inj ho; decide
                  | 4, _ => obtain rfl := Option.some.inj ho; decide
                  | 5, _ => obtain rfl := Option.some.inj ho; decide
                  | 6, _ => obtain rfl := Option.some.inj ho; decide
                  | 7, _ => obtain rfl := Option.some.inj ho; decide
                  | 8, _ => obtain rfl := Option.some.inj ho; decide
                  | 9, _ => obtain rfl := Option.some.inj ho; decide
                  | 10, _ => obtain rfl := Option.some.inj ho; decide
                  | 11, _ => obtain rfl := Option.some.inj ho; decide
                  | 12, _ => obtain rfl := Option.some.inj ho; decide
                  | 13, _ => obtain rfl := Option.some.inj ho; decide
                  | 14, _ => obtain rfl := Option.some.inj ho; decide
                  | 15, _ => obtain rfl := Option.some.inj ho; decide
                  | 16, _ => obtain rfl := Option.some.inj ho; decide
                  | 17, _ => obtain rfl := Option.some.inj ho; decide
                  | 18, _ => obtain rfl := Option.some.inj ho; decide
                  | 19, _ => obtain rfl := Option.some.inj ho; decide
                  | 20, _ => obtain rfl := Option.some.inj ho; decide
                  | 21, _ => obtain rfl := Option.some.inj ho; decide
                  | 22, _ => obtain rfl := Option.some.inj ho; decide
                  | 23, _ => obtain rfl := Option.some.inj ho; decide
                  | 24, _ => obtain rfl := Option.some.inj ho; decide
                  | 25, _ => obtain rfl := Option.some.inj ho; decide
                  | 26, _ => obtain rfl := Option.some.inj ho; decide
                  | 27, _ => obtain rfl := Option.some.inj ho; decide
                  | 28, _ => obtain rfl := Option.some.inj ho; decide
                  | 29, _ => obtain rfl := Option.some.inj ho; decide
                  | 30, _ => obtain rfl := Option.some.inj ho; decide
                  | 31, _ => obtain rfl := Option.some.inj ho; decide
                  | 32, _ => obtain rfl := Option.some.inj ho; decide
                  | 33, _ => obtain rfl := Option.some.inj ho; decide
                  | 34, _ => obtain rfl := Option.some.inj ho; decide
                  | 35, _ => obtain rfl := Option.some.inj ho; decide
                  | 36, _ => obtain rfl := Option.some.inj ho; decide
                case hstep =>
                  intro T1 hE L T W ix o hF hW hc ho hLi hd K hK
                  have hN : T1.size = 132 := by rw [hE]; rfl
                  have f8 : T.getD 8 undef = .pointer (some ⟨q, 0, none⟩) := (hF.old 8 (by decide)).trans (by rw [hE]; rfl)
                  have f13 : T.getD 13 undef = .pointer (some ⟨mx, 0, none⟩) := (hF.old 13 (by decide)).trans (by rw [hE]; rfl)
                  have f14 : T.getD 14 undef = .bool false := (hF.old 14 (by decide)).trans (by rw [hE]; rfl)
                  have f16 : T.getD 16 undef = .int .i64 k := (hF.old 16 (by decide)).trans (by rw [hE]; rfl)
                  clear hE
                  replace hF := Lib.hid hF
                  replace hW := Lib.hid hW
                  replace hK := Lib.hid hK
                  have hi := (List.getElem?_eq_some_iff.1 ho).1
                  match ix, hi with
                  | 0, _ =>
                    obtain rfl := Option.some.inj ho
                    clear hd ho hi hc hLi
                    exact st_val (v := .pointer (some ⟨mx, 0, none⟩)) (w' := W) (want_none rfl) (by unfold execOp; dsimp only [Act.eval]; simp only [f13]; go_simp) (hK.out _ _ (hF.out.put (k := 0) (s := 85) rfl (by decide) hN (by decide) (fun u_v hu => Option.some.inj (Option.some.inj (show some (some (.pointer (some ⟨mx, 0, none⟩))) = some (some u_v) from hu))) hW.out))
                  | 1, _ =>
                    obtain rfl := Option.some.inj ho
                    clear hd ho hi hc hLi
                    exact st_val (v := .pointer (some ⟨q, 0, none⟩)) (w' := W) (want_none rfl) (by unfold execOp; dsimp only [Act.eval]; simp only [f8]; go_simp) (hK.out _ _ (hF.out.put (k := 1) (s := 86) rfl (by decide) hN (by decide) (fun u_v hu => Option.some.inj (Option.some.inj (show some (some (.pointer (some ⟨q, 0, none⟩))) = some (some u_v) from hu))) hW.out))
                  | 2, _ =>
                    obtain rfl := Option.some.inj ho
                    have l1 : L 1 = true := dep_of hd (n := 1) (by decide)
                    have e86 : T.getD 86 undef = .pointer (some ⟨q, 0, none⟩) := hF.out.val 1 86 _ l1 rfl rfl
                    have hcc := (hcx.out W hW.out).1
                    clear hd ho hi hc hLi
                    exact st_val (v := .slice (some ⟨b1, o1, none⟩) n cI) (w' := W) (want_none rfl) (by unfold execOp; dsimp only [Act.eval]; simp only [e86]; go_simp) (hK.out _ _ (hF.out.put (k := 2) (s := 87) rfl (by decide) hN (by decide) (fun u_v hu => Option.some.inj (Option.some.inj (show some (some (.slice (some ⟨b1, o1, none⟩) n cI)) = some (some u_v) from hu))) hW.out))
                  | 3, _ =>
                    obtain rfl := Option.some.inj ho
                    clear hd ho hi hc hLi
                    exact st_val (v := .int .i64 k) (w' := W) (want_none rfl) (by unfold execOp; dsimp only [Act.eval]; simp only [f16]; go_simp) (hK.out _ _ (hF.out.put (k := 3) (s := 88) rfl (by decide) hN (by decide) (fun u_v hu => Option.some.inj (Option.some.inj (show some (some (.int .i64 k)) = some (some u_v) from hu))) hW.out))
                  | 4, _ =>
                    obtain rfl := Option.some.inj ho
                    have l2 : L 2 = true := dep_of hd (n := 2) (by decide)
                    have e87 : T.getD 87 undef = .slice (some ⟨b1, o1, none⟩) n cI := hF.out.val 2 87 _ l2 rfl rfl
                    have l3 : L 3 = true := dep_of hd (n := 3) (by decide)
                    have e88 : T.getD 88 undef = .int .i64 k := hF.out.val 3 88 _ l3 rfl rfl
                    clear hd ho hi hc hLi
                    exact st_val (v := .pointer (some ⟨b1, o1 + k, none⟩)) (w' := W) (want_none rfl) (by unfold execOp; dsimp only [Act.eval]; simp only [e87, e88]; go_simp) (hK.out _ _ (hF.out.put (k := 4) (s := 89) rfl (by decide) hN (by decide) (fun u_v hu => Option.some.inj (Option.some.inj (show some (some (.pointer (some ⟨b1, o1 + k, none⟩))) = some (some u_v) from hu))) hW.out))
                  | 5, _ =>
                    obtain rfl := Option.some.inj ho
                    have l4 : L 4 = true := dep_of hd (n := 4) (by decide)
                    have e89 : T.getD 89 undef = .pointer (some ⟨b1, o1 + k, none⟩) := hF.out.val 4 89 _ l4 rfl rfl
                    have hcc := (hcx.out W hW.out).2
                    clear hd ho hi hc hLi
                    exact st_val (v := .int .i64 x) (w' := W) (want_none rfl) (by unfold execOp; dsimp only [Act.eval]; simp only [e89]; go_simp) (hK.out _ _ (hF.out.put (k := 5) (s := 90) rfl (by decide) hN (by decide) (fun u_v hu => Option.some.inj (Option.some.inj (show some (some (.int .i64 x)) = some (some u_v) from hu))) hW.out))
                  | 6, _ =>
                    obtain rfl := Option.some.inj ho
                    have l0 : L 0 = true := dep_of hd (n := 0) (by decide)
                    have e85 : T.getD 85 undef = .pointer (some ⟨mx, 0, none⟩) := hF.out.val 0 85 _ l0 rfl rfl
                    have l5 : L 5 = true := dep_of hd (n := 5) (by decide)
                    have e90 : T.getD 90 undef = .int .i64 x := hF.out.val 5 90 _ l5 rfl rfl
                    have cc := Lib.hid (cCx.out W hW.out)
                    clear hd ho hi hc hLi
                    refine st_call (want_none rfl) (by unfold execOp; go_simp) cc.out ?_
                    rintro r wz ⟨rfl, hb4⟩
                    exact ⟨_, rfl, hK.out _ _ (hF.out.put (k := 6) (s := 91) rfl (by decide) hN (by decide) (fun u_v hu => Option.some.inj (Option.some.inj (show some (some (.bool false)) = some (some u_v) from hu))) (hW.out.trans (hb4.mono hW.out.size)))⟩
                  | 7, _ =>
                    obtain rfl := Option.some.inj ho
                    have l6 : L 6 = true := dep_of hd (n := 6) (by decide)
                    have e91 : T.getD 91 undef = .bool false := hF.out.val 6 91 _ l6 rfl rfl
                    clear hd ho hi hc hLi
                    exact st_val (v := .bool false) (w' := W) (want_none rfl) (by unfold execOp; dsimp only [Act.eval]; simp only [e91]; go_simp) (hK.out _ _ (hF.out.put (k := 7) (s := 92) rfl (by decide) hN (by decide) (fun u_v hu => Option.some.inj (Option.some.inj (show some (some (.bool false)) = some (some u_v) from hu))) hW.out))
                  | 8, _ =>
                    obtain rfl := Option.some.inj ho
                    have l7 : L 7 = true := dep_of hd (n := 7) (by decide)
                    have e92 : T.getD 92 undef = .bool false := hF.out.val 7 92 _ l7 rfl rfl
                    clear hd ho hi hc hLi
                    exact st_no (by rw [want_some (j := 7) (s := 92) rfl rfl e92]; rfl) (hK.out _ _ (hF.out.put (k := 8) (s := 93) rfl (by decide) hN (by decide) (fun u_v hu => Option.some.inj (Option.some.inj (show some (some (undef)) = some (some u_v) from hu))) hW.out))
                  | 9, _ =>
                    obtain rfl := Option.some.inj ho
                    have l7 : L 7 = true := dep_of hd (n := 7) (by decide)
                    have e92 : T.getD 92 undef = .bool false := hF.out.val 7 92 _ l7 rfl rfl
                    clear hd ho hi hc hLi
                    exact st_no (by rw [want_some (j := 7) (s := 92) rfl rfl e92]; rfl) (hK.out _ _ (hF.out.put (k := 9) (s := 94) rfl (by decide) hN (by decide) (fun u_v hu => Option.some.inj (Option.some.inj (show some (some (undef)) = some (some u_v) from hu))) hW.out))
                  | 10, _ =>
                    obtain rfl := Option.some.inj ho
                    have l7 : L 7 = true := dep_of hd (n := 7) (by decide)
                    have e92 : T.getD 92 undef = .bool false := hF.out.val 7 92 _ l7 rfl rfl
                    clear hd ho hi hc hLi
                    exact st_no (by rw [want_some (j := 7) (s := 92) rfl rfl e92]; rfl) (hK.out _ _ (hF.out.put (k := 10) (s := 95) rfl (by decide) hN (by decide) (fun u_v hu => Option.some.inj (Option.some.inj (show some (some (undef)) = some (some u_v) from hu))) hW.out))
                  | 11, _ =>
                    obtain rfl := Option.some.inj ho
                    have l7 : L 7 = true := dep_of hd (n := 7) (by decide)
                    have e92 : T.getD 92 undef = .bool false := hF.out.val 7 92 _ l7 rfl rfl
                    clear hd ho hi hc hLi
                    exact st_no (by rw [want_some (j := 7) (s := 92) rfl rfl e92]; rfl) (hK.out _ _ (hF.out.put (k := 11) (s := 96) rfl (by decide) hN (by decide) (fun u_v hu => Option.some.inj (Option.some.inj (show some (some (undef)) = some (some u_v) from hu))) hW.out))
                  | 12, _ =>
                    obtain rfl := Option.some.inj ho
                    have l7 : L 7 = true := dep_of hd (n := 7) (by decide)
                    have e92 : T.getD 92 undef = .bool false := hF.out.val 7 92 _ l7 rfl rfl
                    clear hd ho hi hc hLi
                    exact st_no (by rw [want_some (j := 7) (s := 92) rfl rfl e92]; rfl) (hK.out _ _ (hF.out.put (k := 12) (s := 97) rfl (by decide) hN (by decide) (fun u_v hu => Option.some.inj (Option.some.inj (show some (some (undef)) = some (some u_v) from hu))) hW.out))
                  | 13, _ =>
                    obtain rfl := Option.some.inj ho
                    have l7 : L 7 = true := dep_of hd (n := 7) (by decide)
                    have e92 : T.getD 92 undef = .bool false := hF.out.val 7 92 _ l7 rfl rfl
                    clear hd ho hi hc hLi
                    exact st_no (by rw [want_some (j := 7) (s := 92) rfl rfl e92]; rfl) (hK.out _ _ (hF.out.put (k := 13) (s := 98) rfl (by decide) hN (by decide) (fun u_v hu => Option.some.inj (Option.some.inj (show some (some (undef)) = some (some u_v) from hu))) hW.out))
                  | 14, _ =>
                    obtain rfl := Option.some.inj ho
                    have l7 : L 7 = true := dep_of hd (n := 7) (by decide)
                    have e92 : T.getD 92 undef = .bool false := hF.out.val 7 92 _ l7 rfl rfl
                    have cc := Lib.hid (cCy.out W hW.out)
                    clear hd ho hi hc hLi
                    exact st_no (by rw [want_some (j := 7) (s := 92) rfl rfl e92]; rfl) (hK.out _ _ (hF.out.put (k := 14) (s := 99) rfl (by decide) hN (by decide) (fun u_v hu => Option.some.inj (Option.some.inj (show some (some (undef)) = some (some u_v) from hu))) hW.out))
                  | 15, _ =>
                    obtain rfl := Option.some.inj ho
                    have l7 : L 7 = true := dep_of hd (n := 7) (by decide)
                    have e92 : T.getD 92 undef = .bool false := hF.out.val 7 92 _ l7 rfl rfl
                    clear hd ho hi hc hLi
                    exact st_no (by rw [want_some (j := 7) (s := 92) rfl rfl e92]; rfl) (hK.out _ _ (hF.out.put (k := 15) (s := 100) rfl (by decide) hN (by decide) (fun u_v hu => Option.some.inj (Option.some.inj (show some (some (undef)) = some (some u_v) from hu))) hW.out))
                  | 16, _ =>
                    obtain rfl := Option.some.inj ho
                    have l7 : L 7 = true := dep_of hd (n := 7) (by decide)
                    have e92 : T.getD 92 undef = .bool false := hF.out.val 7 92 _ l7 rfl rfl
                    have l15 : L 15 = true := dep_of hd (n := 15) (by decide)
                    have e100 : T.getD 100 undef = undef := hF.out.val 15 100 _ l15 rfl rfl
                    clear hd ho hi hc hLi
                    exact st_val (v := .bool false) (w' := W) (want_none rfl) (by unfold execOp; dsimp only [Act.eval]; simp only [e92, e100]; go_simp) (hK.out _ _ (hF.out.put (k := 16) (s := 101) rfl (by decide) hN (by decide) (fun u_v hu => Option.some.inj (Option.some.inj (show some (some (.bool false)) = some (some u_v) from hu))) hW.out))
                  | 17, _ =>
                    obtain rfl := Option.some.inj ho
                    have l16 : L 16 = true := dep_of hd (n := 16) (by decide)
                    have e101 : T.getD 101 undef = .bool false := hF.out.val 16 101 _ l16 rfl rfl
                    clear hd ho hi hc hLi
                    exact st_val (v := .bool false) (w' := W) (want_none rfl) (by unfold execOp; dsimp only [Act.eval]; simp only [e101]; go_simp) (hK.out _ _ (hF.out.put (k := 17) (s := 102) rfl (by decide) hN (by decide) (fun u_v hu => Option.some.inj (Option.some.inj (show some (some (.bool false)) = some (some u_v) from hu))) hW.out))
                  | 18, _ =>
                    obtain rfl := Option.some.inj ho
                    have l17 : L 17 = true := dep_of hd (n := 17) (by decide)
                    have e102 : T.getD 102 undef = .bool false := hF.out.val 17 102 _ l17 rfl rfl
                    clear hd ho hi hc hLi
                    exact st_val (v := .bool false) (w' := W) (by rw [want_some (j := 17) (s := 102) rfl rfl e102]; rfl) (by unfold execOp; dsimp only [Act.eval]; simp only [f14]; go_simp) (hK.out _ _ (hF.out.put (k := 18) (s := 103) rfl (by decide) hN (by decide) (fun u_v hu => Option.some.inj (Option.some.inj (show some (some (.bool false)) = some (some u_v) from hu))) hW.out))
                  | 19, _ =>
                    obtain rfl := Option.some.inj ho
                    have l18 : L 18 = true := dep_of hd (n := 18) (by decide)
                    have e103 : T.getD 103 undef = .bool false := hF.out.val 18 103 _ l18 rfl rfl
                    have l17 : L 17 = true := dep_of hd (n := 17) (by decide)
                    have e102 : T.getD 102 undef = .bool false := hF.out.val 17 102 _ l17 rfl rfl
                    clear hd ho hi hc hLi
                    exact st_val (v := .bool false) (w' := W) (by rw [want_some (j := 17) (s := 102) rfl rfl e102]; rfl) (by unfold execOp; dsimp only [Act.eval]; simp only [e103]; go_simp) (hK.out _ _ (hF.out.put (k := 19) (s := 104) rfl (by decide) hN (by decide) (fun u_v hu => Option.some.inj (Option.some.inj (show some (some (.bool false)) = some (some u_v) from hu))) hW.out))
                  | 20, _ =>
                    obtain rfl := Option.some.inj ho
                    have l19 : L 19 = true := dep_of hd (n := 19) (by decide)
                    have e104 : T.getD 104 undef = .bool false := hF.out.val 19 104 _ l19 rfl rfl
                    clear hd ho hi hc hLi
                    exact st_no (by rw [want_some (j := 19) (s := 104) rfl rfl e104]; rfl) (hK.out _ _ (hF.out.put (k := 20) (s := 105) rfl (by decide) hN (by decide) (fun u_v hu => Option.some.inj (Option.some.inj (show some (some (undef)) = some (some u_v) from hu))) hW.out))
                  | 21, _ =>
                    obtain rfl := Option.some.inj ho
                    have l19 : L 19 = true := dep_of hd (n := 19) (by decide)
                    have e104 : T.getD 104 undef = .bool false := hF.out.val 19 104 _ l19 rfl rfl
                    clear hd ho hi hc hLi
                    exact st_no (by rw [want_some (j := 19) (s := 104) rfl rfl e104]; rfl) (hK.out _ _ (hF.out.put (k := 21) (s := 106) rfl (by decide) hN (by decide) (fun u_v hu => Option.some.inj (Option.some.inj (show some (some (undef)) = some (some u_v) from hu))) hW.out))
                  | 22, _ =>
                    obtain rfl := Option.some.inj ho
                    have l19 : L 19 = true := dep_of hd (n := 19) (by decide)
                    have e104 : T.getD 104 undef = .bool false := hF.out.val 19 104 _ l19 rfl rfl
                    clear hd ho hi hc hLi
                    exact st_no (by rw [want_some (j := 19) (s := 104) rfl rfl e104]; rfl) (hK.out _ _ (hF.out.put (k := 22) (s := 107) rfl (by decide) hN (by decide) (fun u_v hu => Option.some.inj (Option.some.inj (show some (some (undef)) = some (some u_v) from hu))) hW.out))
                  | 23, _ =>
                    obtain rfl := Option.some.inj ho
                    have l19 : L 19 = true := dep_of hd (n := 19) (by decide)
                    have e104 : T.getD 104 undef = .bool false := hF.out.val 19 104 _ l19 rfl rfl
                    clear hd ho hi hc hLi
                    exact st_no (by rw [want_some (j := 19) (s := 104) rfl rfl e104]; rfl) (hK.out _ _ (hF.out.put (k := 23) (s := 108) rfl (by decide) hN (by decide) (fun u_v hu => Option.some.inj (Option.some.inj (show some (some (undef)) = some (some u_v) from hu))) hW.out))
                  | 24, _ =>
                    obtain rfl := Option.some.inj ho
                    have l19 : L 19 = true := dep_of hd (n := 19) (by decide)
                    have e104 : T.getD 104 undef = .bool false := hF.out.val 19 104 _ l19 rfl rfl
                    clear hd ho hi hc hLi
                    exact st_no (by rw [want_some (j := 19) (s := 104) rfl rfl e104]; rfl) (hK.out _ _ (hF.out.put (k := 24) (s := 109) rfl (by decide) hN (by decide) (fun u_v hu => Option.some.inj (Option.some.inj (show some (some (undef)) = some (some u_v) from hu))) hW.out))
                  | 25, _ =>
                    obtain rfl := Option.some.inj ho
                    have l19 : L 19 = true := dep_of hd (n := 19) (by decide)
                    have e104 : T.getD 104 undef = .bool false := hF.out.val 19 104 _ l19 rfl rfl
                    clear hd ho hi hc hLi
                    exact st_no (by rw [want_some (j := 19) (s := 104) rfl rfl e104]; rfl) (hK.out _ _ (hF.out.put (k := 25) (s := 110) rfl (by decide) hN (by decide) (fun u_v hu => Option.some.inj (Option.some.inj (show some (some (undef)) = some (some u_v) from hu))) hW.out))
                  | 26, _ =>
                    obtain rfl := Option.some.inj ho
                    have l19 : L 19 = true := dep_of hd (n := 19) (by decide)
                    have e104 : T.getD 104 undef = .bool false := hF.out.val 19 104 _ l19 rfl rfl
                    have cc := Lib.hid (cCx.out W hW.out)
                    clear hd ho hi hc hLi
                    exact st_no (by rw [want_some (j := 19) (s := 104) rfl rfl e104]; rfl) (hK.out _ _ (hF.out.put (k := 26) (s := 111) rfl (by decide) hN (by decide) (fun u_v hu => Option.some.inj (Option.some.inj (show some (some (undef)) = some (some u_v) from hu))) hW.out))
                  | 27, _ =>
                    obtain rfl := Option.some.inj ho
                    have l19 : L 19 = true := dep_of hd (n := 19) (by decide)
                    have e104 : T.getD 104 undef = .bool false := hF.out.val 19 104 _ l19 rfl rfl
                    clear hd ho hi hc hLi
                    exact st_no (by rw [want_some (j := 19) (s := 104) rfl rfl e104]; rfl) (hK.out _ _ (hF.out.put (k := 27) (s := 112) rfl (by decide) hN (by decide) (fun u_v hu => Option.some.inj (Option.some.inj (show some (some (undef)) = some (some u_v) from hu))) hW.out))
                  | 28, _ =>
                    obtain rfl := Option.some.inj ho
                    have l19 : L 19 = true := dep_of hd (n := 19) (by decide)
                    have e104 : T.getD 104 undef = .bool false := hF.out.val 19 104 _ l19 rfl rfl
                    clear hd ho hi hc hLi
                    exact st_no (by rw [want_some (j := 19) (s := 104) rfl rfl e104]; rfl) (hK.out _ _ (hF.out.put (k := 28) (s := 113) rfl (by decide) hN (by decide) (fun u_v hu => Option.some.inj (Option.some.inj (show some (some (undef)) = some (some u_v) from hu))) hW.out))
                  | 29, _ =>
                    obtain rfl := Option.some.inj ho
                    have l19 : L 19 = true := dep_of hd (n := 19) (by decide)
                    have e104 : T.getD 104 undef = .bool false := hF.out.val 19 104 _ l19 rfl rfl
                    clear hd ho hi hc hLi
                    exact st_no (by rw [want_some (j := 19) (s := 104) rfl rfl e104]; rfl) (hK.out _ _ (hF.out.put (k := 29) (s := 114) rfl (by decide) hN (by decide) (fun u_v hu => Option.some.inj (Option.some.inj (show some (some (undef)) = some (some u_v) from hu))) hW.out))
                  | 30, _ =>
                    obtain rfl := Option.some.inj ho
                    have l19 : L 19 = true := dep_of hd (n := 19) (by decide)
                    have e104 : T.getD 104 undef = .bool false := hF.out.val 19 104 _ l19 rfl rfl
                    clear hd ho hi hc hLi
                    exact st_no (by rw [want_some (j := 19) (s := 104) rfl rfl e104]; rfl) (hK.out _ _ (hF.out.put (k := 30) (s := 115) rfl (by decide) hN (by decide) (fun u_v hu => Option.some.inj (Option.some.inj (show some (some (undef)) = some (some u_v) from hu))) hW.out))
                  | 31, _ =>
                    obtain rfl := Option.some.inj ho
                    have l19 : L 19 = true := dep_of hd (n := 19) (by decide)
                    have e104 : T.getD 104 undef = .bool false := hF.out.val 19 104 _ l19 rfl rfl
                    clear hd ho hi hc hLi
                    exact st_no (by rw [want_some (j := 19) (s := 104) rfl rfl e104]; rfl) (hK.out _ _ (hF.out.put (k := 31) (s := 116) rfl (by decide) hN (by decide) (fun u_v hu => Option.some.inj (Option.some.inj (show some (some (undef)) = some (some u_v) from hu))) hW.out))
                  | 32, _ =>
                    obtain rfl := Option.some.inj ho
                    have l19 : L 19 = true := dep_of hd (n := 19) (by decide)
                    have e104 : T.getD 104 undef = .bool false := hF.out.val 19 104 _ l19 rfl rfl
                    clear hd ho hi hc hLi
                    exact st_no (by rw [want_some (j := 19) (s := 104) rfl rfl e104]; rfl) (hK.out _ _ (hF.out.put (k := 32) (s := 117) rfl (by decide) hN (by decide) (fun u_v hu => Option.some.inj (Option.some.inj (show some (some (undef)) = some (some u_v) from hu))) hW.out))
                  | 33, _ =>
                    obtain rfl := Option.some.inj ho
                    have l19 : L 19 = true := dep_of hd (n := 19) (by decide)
                    have e104 : T.getD 104 undef = .bool false := hF.out.val 19 104 _ l19 rfl rfl
                    have cc := Lib.hid (cCy.out W hW.out)
                    clear hd ho hi hc hLi
                    exact st_no (by rw [want_some (j := 19) (s := 104) rfl rfl e104]; rfl) (hK.out _ _ (hF.out.put (k := 33) (s := 118) rfl (by decide) hN (by decide) (fun u_v hu => Option.some.inj (Option.some.inj (show some (some (undef)) = some (some u_v) from hu))) hW.out))
                  | 34, _ =>
                    obtain rfl := Option.some.inj ho
                    have l19 : L 19 = true := dep_of hd (n := 19) (by decide)
                    have e104 : T.getD 104 undef = .bool false := hF.out.val 19 104 _ l19 rfl rfl
                    clear hd ho hi hc hLi
                    exact st_no (by rw [want_some (j := 19) (s := 104) rfl rfl e104]; rfl) (hK.out _ _ (hF.out.put (k := 34) (s := 119) rfl (by decide) hN (by decide) (fun u_v hu => Option.some.inj (Option.some.inj (show some (some (undef)) = some (some u_v) from hu))) hW.out))
                  | 35, _ =>
                    obtain rfl := Option.some.inj ho
                    have l19 : L 19 = true := dep_of hd (n := 19) (by decide)
                    have e104 : T.getD 104 undef = .bool false := hF.out.val 19 104 _ l19 rfl rfl
                    have l34 : L 34 = true := dep_of hd (n := 34) (by decide)
                    have e119 : T.getD 119 undef = undef := hF.out.val 34 119 _ l34 rfl rfl
                    have l17 : L 17 = true := dep_of hd (n := 17) (by decide)
                    have e102 : T.getD 102 undef = .bool false := hF.out.val 17 102 _ l17 rfl rfl
                    clear hd ho hi hc hLi
                    exact st_val (v := .bool false) (w' := W) (by rw [want_some (j := 17) (s := 102) rfl rfl e102]; rfl) (by unfold execOp; dsimp only [Act.eval]; simp only [e104, e119]; go_simp) (hK.out _ _ (hF.out.put (k := 35) (s := 120) rfl (by decide) hN (by decide) (fun u_v hu => Option.some.inj (Option.some.inj (show some (some (.bool false)) = some (some u_v) from hu))) hW.out))
                  | 36, _ =>
                    obtain rfl := Option.some.inj ho
                    have l17 : L 17 = true := dep_of hd (n := 17) (by decide)
                    have e102 : T.getD 102 undef = .bool false := hF.out.val 17 102 _ l17 rfl rfl
                    have l35 : L 35 = true := dep_of hd (n := 35) (by decide)
                    have e120 : T.getD 120 undef = .bool false := hF.out.val 35 120 _ l35 rfl rfl
                    clear hd ho hi hc hLi
                    exact st_val (v := .bool false) (w' := W) (want_none rfl) (by unfold execOp; dsimp only [Act.eval]; simp only [e102, e120]; go_simp) (hK.out _ _ (hF.out.put (k := 36) (s := 121) rfl (by decide) hN (by decide) (fun u_v hu => Option.some.inj (Option.some.inj (show some (some (.bool false)) = some (some u_v) from hu))) hW.out))
                case hdone =>
                  intro L T W2 hF hW hall
                  have hB18 := Lib.hid (hbr.out.trans (hW.mono hbr.out.size))
                  clear hW hcx cCx cCy hb hbr
                  have hT : T = #[.slice A n c, .agg (cutC ka kb j), .int .i64 i, undef, .pointer (some ⟨p0, 0, none⟩), undef, u6, .pointer (some ⟨g, 0, none⟩), .pointer (some ⟨q, 0, none⟩), .int .i64 tx, .string tt, .slice A8 (sn + 1) c8, .int .i64 j, .pointer (some ⟨mx, 0, none⟩), .bool false, .pointer (some ⟨my, 0, none⟩), .int .i64 k, .slice A n c, .agg #[.int .i64 ka, .int .i64 kb, .int .i64 j], .bool true, .bool false, undef, .pointer (some ⟨g, 0, none⟩), .pointer (some ⟨g, 0, none⟩), .slice A n c, .agg #[.slice (some ⟨b1, o1, none⟩) n cI, .slice AT n cT], .tuple #[.int .i64 tx, .string tt], .agg #[.slice (some ⟨b1, o1, none⟩) n cI, .slice AT n cT], .int .i64 i, .tuple #[.int .i64 tx, .string tt], .int .i64 tx, .string tt, .pointer (some ⟨p0, 1, none⟩), .int .i64 kb, .int .i64 j, .pointer (some ⟨p0, 2, none⟩), .int .i64 j, .bool false, u38, u39, u40, u41, u42, u43, u44, u45, u46, u47, .pointer (some ⟨g, 0, none⟩), .pointer (some ⟨q, 0, none⟩), .slice (some ⟨b1, o1, none⟩) n cI, .pointer (some ⟨p0, 0, none⟩), .int .i64 ka, .pointer (some ⟨p0, 1, none⟩), .int .i64 kb, .slice (behind3 (some ⟨b1, o1, none⟩) ka cI) (kb - ka) (cI - ka), .slice As sn cs, .pointer (some ⟨mx, 0, none⟩), u58, u59, u60, u61, u62, u63, u64, .slice As sn cs, .int .i64 tx, .slice (some ⟨wc.heap.size, 0, none⟩) 1 1, .slice A8 (sn + 1) c8, .pointer (some ⟨g, 0, none⟩), .pointer (some ⟨q, 0, none⟩), .slice (some ⟨b1, o1, none⟩) n cI, .pointer (some ⟨p0, 0, none⟩), .int .i64 ka, .pointer (some ⟨p0, 1, none⟩), .int .i64 kb, .slice (behind3 (some ⟨b1, o1, none⟩) ka cI) (kb - ka) (cI - ka), .slice A8 (sn + 1) c8, .pointer (some ⟨my, 0, none⟩), .int .i64 k, .slice A n c, .int .i64 n, .bool true, u83, u84, .pointer (some ⟨mx, 0, none⟩), .pointer (some ⟨q, 0, none⟩), .slice (some ⟨b1, o1, none⟩) n cI, .int .i64 k, .pointer (some ⟨b1, o1 + k, none⟩), .int .i64 x, .bool false, .bool false, undef, undef, undef, undef, undef, undef, undef, undef, .bool false, .bool false, .bool false, .bool false, undef, undef, undef, undef, undef, undef, undef, undef, undef, undef, undef, undef, undef, undef, undef, .bool false, .bool false, undef, undef, undef, undef, undef, undef, undef, undef, undef, undef] := (hF.fin [(85, .pointer (some ⟨mx, 0, none⟩)), (86, .pointer (some ⟨q, 0, none⟩)), (87, .slice (some ⟨b1, o1, none⟩) n cI), (88, .int .i64 k), (89, .pointer (some ⟨b1, o1 + k, none⟩)), (90, .int .i64 x), (91, .bool false), (92, .bool false), (93, undef), (94, undef), (95, undef), (96, undef), (97, undef), (98, undef), (99, undef), (100, undef), (101, .bool false), (102, .bool false), (103, .bool false), (104, .bool false), (105, undef), (106, undef), (107, undef), (108, undef), (109, undef), (110, undef), (111, undef), (112, undef), (113, undef), (114, undef), (115, undef), (116, undef), (117, undef), (118, undef), (119, undef), (120, .bool false), (121, .bool false)] [85, 86, 87, 88, 89, 90, 91, 92, 93, 94, 95, 96, 97, 98, 99, 100, 101, 102, 103, 104, 105, 106, 107, 108, 109, 110, 111, 112, 113, 114, 115, 116, 117, 118, 119, 120, 121] rfl (List.forall_mem_cons.2 ⟨hF.val 0 _ _ (hall 0 (show 0 < 37 by decide)) rfl rfl, (List.forall_mem_cons.2 ⟨hF.val 1 _ _ (hall 1 (show 1 < 37 by decide)) rfl rfl, (List.forall_mem_cons.2 ⟨hF.val 2 _ _ (hall 2 (show 2 < 37 by decide)) rfl rfl, (List.forall_mem_cons.2 ⟨hF.val 3 _ _ (hall 3 (show 3 < 37 by decide)) rfl rfl, (List.forall_mem_cons.2 ⟨hF.val 4 _ _ (hall 4 (show 4 < 37 by decide)) rfl rfl, (List.forall_mem_cons.2 ⟨hF.val 5 _ _ (hall 5 (show 5 < 37 by decide)) rfl rfl, (List.forall_mem_cons.2 ⟨hF.val 6 _ _ (hall 6 (show 6 < 37 by decide)) rfl rfl, (List.forall_mem_cons.2 ⟨hF.val 7 _ _ (hall 7 (show 7 < 37 by decide)) rfl rfl, (List.forall_mem_cons.2 ⟨hF.val 8 _ _ (hall 8 (show 8 < 37 by decide)) rfl rfl, (List.forall_mem_cons.2 ⟨hF.val 9 _ _ (hall 9 (show 9 < 37 by decide)) rfl rfl, (List.forall_mem_cons.2 ⟨hF.val 10 _ _ (hall 10 (show 10 < 37 by decide)) rfl rfl, (List.forall_mem_cons.2 ⟨hF.val 11 _ _ (hall 11 (show 11 < 37 by decide)) rfl rfl, (List.forall_mem_cons.2 ⟨hF.val 12 _ _ (hall 12 (show 12 < 37 by decide)) rfl rfl, (List.forall_mem_cons.2 ⟨hF.val 13 _ _ (hall 13 (show 13 < 37 by decide)) rfl rfl, (List.forall_mem_cons.2 ⟨hF.val 14 _ _ (hall 14 (show 14 < 37 by decide)) rfl rfl, (List.forall_mem_cons.2 ⟨hF.val 15 _ _ (hall 15 (show 15 < 37 by decide)) rfl rfl, (List.forall_mem_cons.2 ⟨hF.val 16 _ _ (hall 16 (show 16 < 37 by decide)) rfl rfl, (List.forall_mem_cons.2 ⟨hF.val 17 _ _ (hall 17 (show 17 < 37 by decide)) rfl rfl, (List.forall_mem_cons.2 ⟨hF.val 18 _ _ (hall 18 (show 18 < 37 by decide)) rfl rfl, (List.forall_mem_cons.2 ⟨hF.val 19 _ _ (hall 19 (show 19 < 37 by decide)) rfl rfl, (List.forall_mem_cons.2 ⟨hF.val 20 _ _ (hall 20 (show 20 < 37 by decide)) rfl rfl, (List.forall_mem_cons.2 ⟨hF.val 21 _ _ (hall 21 (show 21 < 37 by decide)) rfl rfl, (List.forall_mem_cons.2 ⟨hF.val 22 _ _ (hall 22 (show 22 < 37 by decide)) rfl rfl, (List.forall_mem_cons.2 ⟨hF.val 23 _ _ (hall 23 (show 23 < 37 by decide)) rfl rfl, (List.forall_mem_cons.2 ⟨hF.val 24 _ _ (hall 24 (show 24 < 37 by decide)) rfl rfl, (List.forall_mem_cons.2 ⟨hF.val 25 _ _ (hall 25 (show 25 < 37 by decide)) rfl rfl, (List.forall_mem_cons.2 ⟨hF.val 26 _ _ (hall 26 (show 26 < 37 by decide)) rfl rfl, (List.forall_mem_cons.2 ⟨hF.val 27 _ _ (hall 27 (show 27 < 37 by decide)) rfl rfl, (List.forall_mem_cons.2 ⟨hF.val 28 _ _ (hall 28 (show 28 < 37 by decide)) rfl rfl, (List.forall_mem_cons.2 ⟨hF.val 29 _ _ (hall 29 (show 29 < 37 by decide)) rfl rfl, (List.forall_mem_cons.2 ⟨hF.val 30 _ _ (hall 30 (show 30 < 37 by decide)) rfl rfl, (List.forall_mem_cons.2 ⟨hF.val 31 _ _ (hall 31 (show 31 < 37 by decide)) rfl rfl, (List.forall_mem_cons.2 ⟨hF.val 32 _ _ (hall 32 (show 32 < 37 by decide)) rfl rfl, (List.forall_mem_cons.2 ⟨hF.val 33 _ _ (hall 33 (show 33 < 37 by decide)) rfl rfl, (List.forall_mem_cons.2 ⟨hF.val 34 _ _ (hall 34 (show 34 < 37 by decide)) rfl rfl, (List.forall_mem_cons.2 ⟨hF.val 35 _ _ (hall 35 (show 35 < 37 by decide)) rfl rfl, (List.forall_mem_cons.2 ⟨hF.val 36 _ _ (hall 36 (show 36 < 37 by decide)) rfl rfl, (fun _ h => absurd h List.not_mem_nil)⟩)⟩)⟩)⟩)⟩)⟩)⟩)⟩)⟩)⟩)⟩)⟩)⟩)⟩)⟩)⟩)⟩)⟩)⟩)⟩)⟩)⟩)⟩)⟩)⟩)⟩)⟩)⟩)⟩)⟩)⟩)⟩)⟩)⟩)⟩)⟩)⟩) (by decide)).trans (by kernel_rfl)
                  clear hF hall
                  subst hT
                  go_wp2_with fail
                  go_roundw
                  case rel => exact ⟨k + 1, by omega, by go_num, hB18⟩
                  case measure => simp [intOf]; omega
              · refine region_iw tbSd18b dsSd18b (vsSd18b q b1 o1 n cI k x mx my) (fun L T W => Below wr.heap.size wr W) rfl (by decide) (by kernel_rfl) ?hlt ?hstep ?hdone ?hstart
                case hstart => exact drewN_below 1
                case hlt =>
                  intro ix o ho
                  have hi := (Array.getElem?_eq_some_iff.1 ho).1
                  match ix, hi with
                  | 0, _ => obtain rfl := Option.some.inj ho; decide
                  | 1, _ => obtain rfl := Option.some.inj ho; decide
                  | 2, _ => obtain rfl := Option.some.inj ho; decide
                  | 3, _ => obtain rfl := Option.some.inj ho; decide
                  | 4, _ => obtain rfl := Option.some.inj ho; decide
                  | 5, _ => obtain rfl := Option.some.inj ho; decide
                  | 6, _ => obtain rfl := Option.some.inj ho; decide
                  | 7, _ => obtain rfl := Option.some.inj ho; decide
                  | 8, _ => obtain rfl := Option.some.inj ho; decide
                  | 9, _ => obtain rfl := Option.some.inj ho; decide
                  | 10, _ => obtain rfl := Option.some.inj ho; decide
                  | 11, _ => obtain rfl := Option.some.inj ho; decide
                  | 12, _ => obtain rfl := Option.some.inj ho; decide
                  | 13, _ => obtain rfl := Option.some.inj ho; decide
                  | 14, _ => obtain rfl := Option.some.inj ho; decide
                  | 15, _ => obtain rfl := Option.some.inj ho; decide
                  | 16, _ => obtain rfl := Option.some.inj ho; decide
                  | 17, _ => obtain rfl := Option.some.inj ho; decide
                  | 18, _ => obtain rfl := Option.some.inj ho; decide
                  | 19, _ => obtain rfl := Option.some.inj ho; decide
                  | 20, _ => obtain rfl := Option.some.inj ho; decide
                  | 21, _ => obtain rfl := Option.some.inj ho; decide
                  | 22, _ => obtain rfl := Option.some.inj ho; decide
                  | 23, _ => obtain rfl := Option.some.inj ho; decide
                  | 24, _ => obtain rfl := Option.some.inj ho; decide
                  | 25, _ => obtain rfl := Option.some.inj ho; decide
                  | 26, _ => obtain rfl := Option.some.inj ho; decide
                  | 27, _ => obtain rfl := Option.some.inj ho; decide
                  | 28, _ => obtain rfl := Option.some.inj ho; decide
                  | 29, _ => obtain rfl := Option.some.inj ho; decide
                  | 30, _ => obtain rfl := Option.some.inj ho; decide
                  | 31, _ => obtain rfl := Option.some.inj ho; decide
                  | 32, _ => obtain rfl := Option.some.inj ho; decide
                  | 33, _ => obtain rfl := Option.some.inj ho; decide
                  | 34, _ => obtain rfl := Option.some.inj ho; decide
                  | 35, _ => obtain rfl := Option.some.inj ho; decide
                  | 36, _ => obtain rfl := Option.some.inj ho; decide
                case hstep =>
                  intro T1 hE L T W ix o hF hW hc ho hLi hd K hK
                  have hN : T1.size = 132 := by rw [hE]; rfl
                  have f8 : T.getD 8 undef = .pointer (some ⟨q, 0, none⟩) := (hF.old 8 (by decide)).trans (by rw [hE]; rfl)
                  have f13 : T.getD 13 undef = .pointer (some ⟨mx, 0, none⟩) := (hF.old 13 (by decide)).trans (by rw [hE]; rfl)
                  have f14 : T.getD 14 undef = .bool true := (hF.old 14 (by decide)).trans (by rw [hE]; rfl)
                  have f15 : T.getD 15 undef = .pointer (some ⟨my, 0, none⟩) := (hF.old 15 (by decide)).trans (by rw [hE]; rfl)
                  have f16 : T.getD 16 undef = .int .i64 k := (hF.old 16 (by decide)).trans (by rw [hE]; rfl)
                  clear hE
                  replace hF := Lib.hid hF
                  replace hW := Lib.hid hW
                  replace hK := Lib.hid hK
                  have hi := (List.getElem?_eq_some_iff.1 ho).1
                  match ix, hi with
                  | 0, _ =>
                    obtain rfl := Option.some.inj ho
                    clear hd ho hi hc hLi
                    exact st_val (v := .pointer (some ⟨mx, 0, none⟩)) (w' := W) (want_none rfl) (by unfold execOp; dsimp only [Act.eval]; simp only [f13]; go_simp) (hK.out _ _ (hF.out.put (k := 0) (s := 85) rfl (by decide) hN (by decide) (fun u_v hu => Option.some.inj (Option.some.inj (show some (some (.pointer (some ⟨mx, 0, none⟩))) = some (some u_v) from hu))) hW.out))
                  | 1, _ =>
                    obtain rfl := Option.some.inj ho
                    clear hd ho hi hc hLi
                    exact st_val (v := .pointer (some ⟨q, 0, none⟩)) (w' := W) (want_none rfl) (by unfold execOp; dsimp only [Act.eval]; simp only [f8]; go_simp) (hK.out _ _ (hF.out.put (k := 1) (s := 86) rfl (by decide) hN (by decide) (fun u_v hu => Option.some.inj (Option.some.inj (show some (some (.pointer (some ⟨q, 0, none⟩))) = some (some u_v) from hu))) hW.out))
                  | 2, _ =>
                    obtain rfl := Option.some.inj ho
                    have l1 : L 1 = true := dep_of hd (n := 1) (by decide)
                    have e86 : T.getD 86 undef = .pointer (some ⟨q, 0, none⟩) := hF.out.val 1 86 _ l1 rfl rfl
                    have hcc := (hcx.out W hW.out).1
                    clear hd ho hi hc hLi
                    exact st_val (v := .slice (some ⟨b1, o1, none⟩) n cI) (w' := W) (want_none rfl) (by unfold execOp; dsimp only [Act.eval]; simp only [e86]; go_simp) (hK.out _ _ (hF.out.put (k := 2) (s := 87) rfl (by decide) hN (by decide) (fun u_v hu => Option.some.inj (Option.some.inj (show some (some (.slice (some ⟨b1, o1, none⟩) n cI)) = some (some u_v) from hu))) hW.out))
                  | 3, _ =>
                    obtain rfl := Option.some.inj ho
                    clear hd ho hi hc hLi
                    exact st_val (v := .int .i64 k) (w' := W) (want_none rfl) (by unfold execOp; dsimp only [Act.eval]; simp only [f16]; go_simp) (hK.out _ _ (hF.out.put (k := 3) (s := 88) rfl (by decide) hN (by decide) (fun u_v hu => Option.some.inj (Option.some.inj (show some (some (.int .i64 k)) = some (some u_v) from hu))) hW.out))
                  | 4, _ =>
                    obtain rfl := Option.some.inj ho
                    have l2 : L 2 = true := dep_of hd (n := 2) (by decide)
                    have e87 : T.getD 87 undef = .slice (some ⟨b1, o1, none⟩) n cI := hF.out.val 2 87 _ l2 rfl rfl
                    have l3 : L 3 = true := dep_of hd (n := 3) (by decide)
                    have e88 : T.getD 88 undef = .int .i64 k := hF.out.val 3 88 _ l3 rfl rfl
                    clear hd ho hi hc hLi
                    exact st_val (v := .pointer (some ⟨b1, o1 + k, none⟩)) (w' := W) (want_none rfl) (by unfold execOp; dsimp only [Act.eval]; simp only [e87, e88]; go_simp) (hK.out _ _ (hF.out.put (k := 4) (s := 89) rfl (by decide) hN (by decide) (fun u_v hu => Option.some.inj (Option.some.inj (show some (some (.pointer (some ⟨b1, o1 + k, none⟩))) = some (some u_v) from hu))) hW.out))
                  | 5, _ =>
                    obtain rfl := Option.some.inj ho
                    have l4 : L 4 = true := dep_of hd (n := 4) (by decide)
                    have e89 : T.getD 89 undef = .pointer (some ⟨b1, o1 + k, none⟩) := hF.out.val 4 89 _ l4 rfl rfl
                    have hcc := (hcx.out W hW.out).2
                    clear hd ho hi hc hLi
                    exact st_val (v := .int .i64 x) (w' := W) (want_none rfl) (by unfold execOp; dsimp only [Act.eval]; simp only [e89]; go_simp) (hK.out _ _ (hF.out.put (k := 5) (s := 90) rfl (by decide) hN (by decide) (fun u_v hu => Option.some.inj (Option.some.inj (show some (some (.int .i64 x)) = some (some u_v) from hu))) hW.out))
                  | 6, _ =>
                    obtain rfl := Option.some.inj ho
                    have l0 : L 0 = true := dep_of hd (n := 0) (by decide)
                    have e85 : T.getD 85 undef = .pointer (some ⟨mx, 0, none⟩) := hF.out.val 0 85 _ l0 rfl rfl
                    have l5 : L 5 = true := dep_of hd (n := 5) (by decide)
                    have e90 : T.getD 90 undef = .int .i64 x := hF.out.val 5 90 _ l5 rfl rfl
                    have cc := Lib.hid (cCx.out W hW.out)
                    clear hd ho hi hc hLi
                    refine st_call (want_none rfl) (by unfold execOp; go_simp) cc.out ?_
                    rintro r wz ⟨rfl, hb4⟩
                    exact ⟨_, rfl, hK.out _ _ (hF.out.put (k := 6) (s := 91) rfl (by decide) hN (by decide) (fun u_v hu => Option.some.inj (Option.some.inj (show some (some (.bool false)) = some (some u_v) from hu))) (hW.out.trans (hb4.mono hW.out.size)))⟩
                  | 7, _ =>
                    obtain rfl := Option.some.inj ho
                    have l6 : L 6 = true := dep_of hd (n := 6) (by decide)
                    have e91 : T.getD 91 undef = .bool false := hF.out.val 6 91 _ l6 rfl rfl
                    clear hd ho hi hc hLi
                    exact st_val (v := .bool false) (w' := W) (want_none rfl) (by unfold execOp; dsimp only [Act.eval]; simp only [e91]; go_simp) (hK.out _ _ (hF.out.put (k := 7) (s := 92) rfl (by decide) hN (by decide) (fun u_v hu => Option.some.inj (Option.some.inj (show some (some (.bool false)) = some (some u_v) from hu))) hW.out))
                  | 8, _ =>
                    obtain rfl := Option.some.inj ho
                    have l7 : L 7 = true := dep_of hd (n := 7) (by decide)
                    have e92 : T.getD 92 undef = .bool false := hF.out.val 7 92 _ l7 rfl rfl
                    clear hd ho hi hc hLi
                    exact st_no (by rw [want_some (j := 7) (s := 92) rfl rfl e92]; rfl) (hK.out _ _ (hF.out.put (k := 8) (s := 93) rfl (by decide) hN (by decide) (fun u_v hu => Option.some.inj (Option.some.inj (show some (some (undef)) = some (some u_v) from hu))) hW.out))
                  | 9, _ =>
                    obtain rfl := Option.some.inj ho
                    have l7 : L 7 = true := dep_of hd (n := 7) (by decide)
                    have e92 : T.getD 92 undef = .bool false := hF.out.val 7 92 _ l7 rfl rfl
                    clear hd ho hi hc hLi
                    exact st_no (by rw [want_some (j := 7) (s := 92) rfl rfl e92]; rfl) (hK.out _ _ (hF.out.put (k := 9) (s := 94) rfl (by decide) hN (by decide) (fun u_v hu => Option.some.inj (Option.some.inj (show some (some (undef)) = some (some u_v) from hu))) hW.out))
                  | 10, _ =>
                    obtain rfl := Option.some.inj ho
                    have l7 : L 7 = true := dep_of hd (n := 7) (by decide)
                    have e92 : T.getD 92 undef = .bool false := hF.out.val 7 92 _ l7 rfl rfl
                    clear hd ho hi hc hLi
                    exact st_no (by rw [want_some (j := 7) (s := 92) rfl rfl e92]; rfl) (hK.out _ _ (hF.out.put (k := 10) (s := 95) rfl (by decide) hN (by decide) (fun u_v hu => Option.some.inj (Option.some.inj (show some (some (undef)) = some (some u_v) from hu))) hW.out))
                  | 11, _ =>
                    obtain rfl := Option.some.inj ho
                    have l7 : L 7 = true := dep_of hd (n := 7) (by decide)
                    have e92 : T.getD 92 undef = .bool false := hF.out.val 7 92 _ l7 rfl rfl
                    clear hd ho hi hc hLi
                    exact st_no (by rw [want_some (j := 7) (s := 92) rfl rfl e92]; rfl) (hK.out _ _ (hF.out.put (k := 11) (s := 96) rfl (by decide) hN (by decide) (fun u_v hu => Option.some.inj (Option.some.inj (show some (some (undef)) = some (some u_v) from hu))) hW.out))
                  | 12, _ =>
                    obtain rfl := Option.some.inj ho
                    have l7 : L 7 = true := dep_of hd (n := 7) (by decide)
                    have e92 : T.getD 92 undef = .bool false := hF.out.val 7 92 _ l7 rfl rfl
                    clear hd ho hi hc hLi
                    exact st_no (by rw [want_some (j := 7) (s := 92) rfl rfl e92]; rfl) (hK.out _ _ (hF.out.put (k := 12) (s := 97) rfl (by decide) hN (by decide) (fun u_v hu => Option.some.inj (Option.some.inj (show some (some (undef)) = some (some u_v) from hu))) hW.out))
                  | 13, _ =>
                    obtain rfl := Option.some.inj ho
                    have l7 : L 7 = true := dep_of hd (n := 7) (by decide)
                    have e92 : T.getD 92 undef = .bool false := hF.out.val 7 92 _ l7 rfl rfl
                    clear hd ho hi hc hLi
                    exact st_no (by rw [want_some (j := 7) (s := 92) rfl rfl e92]; rfl) (hK.out _ _ (hF.out.put (k := 13) (s := 98) rfl (by decide) hN (by decide) (fun u_v hu => Option.some.inj (Option.some.inj (show some (some (undef)) = some (some u_v) from hu))) hW.out))
                  | 14, _ =>
                    obtain rfl := Option.some.inj ho
                    have l7 : L 7 = true := dep_of hd (n := 7) (by decide)
                    have e92 : T.getD 92 undef = .bool false := hF.out.val 7 92 _ l7 rfl rfl
                    have cc := Lib.hid (cCy.out W hW.out)
                    clear hd ho hi hc hLi
                    exact st_no (by rw [want_some (j := 7) (s := 92) rfl rfl e92]; rfl) (hK.out _ _ (hF.out.put (k := 14) (s := 99) rfl (by decide) hN (by decide) (fun u_v hu => Option.some.inj (Option.some.inj (show some (some (undef)) = some (some u_v) from hu))) hW.out))
                  | 15, _ =>
                    obtain rfl := Option.some.inj ho
                    have l7 : L 7 = true := dep_of hd (n := 7) (by decide)
                    have e92 : T.getD 92 undef = .bool false := hF.out.val 7 92 _ l7 rfl rfl
                    clear hd ho hi hc hLi
                    exact st_no (by rw [want_some (j := 7) (s := 92) rfl rfl e92]; rfl) (hK.out _ _ (hF.out.put (k := 15) (s := 100) rfl (by decide) hN (by decide) (fun u_v hu => Option.some.inj (Option.some.inj (show some (some (undef)) = some (some u_v) from hu))) hW.out))
                  | 16, _ =>
                    obtain rfl := Option.some.inj ho
                    have l7 : L 7 = true := dep_of hd (n := 7) (by decide)
                    have e92 : T.getD 92 undef = .bool false := hF.out.val 7 92 _ l7 rfl rfl
                    have l15 : L 15 = true := dep_of hd (n := 15) (by decide)
                    have e100 : T.getD 100 undef = undef := hF.out.val 15 100 _ l15 rfl rfl
                    clear hd ho hi hc hLi
                    exact st_val (v := .bool false) (w' := W) (want_none rfl) (by unfold execOp; dsimp only [Act.eval]; simp only [e92, e100]; go_simp) (hK.out _ _ (hF.out.put (k := 16) (s := 101) rfl (by decide) hN (by decide) (fun u_v hu => Option.some.inj (Option.some.inj (show some (some (.bool false)) = some (some u_v) from hu))) hW.out))
                  | 17, _ =>
                    obtain rfl := Option.some.inj ho
                    have l16 : L 16 = true := dep_of hd (n := 16) (by decide)
                    have e101 : T.getD 101 undef = .bool false := hF.out.val 16 101 _ l16 rfl rfl
                    clear hd ho hi hc hLi
                    exact st_val (v := .bool false) (w' := W) (want_none rfl) (by unfold execOp; dsimp only [Act.eval]; simp only [e101]; go_simp) (hK.out _ _ (hF.out.put (k := 17) (s := 102) rfl (by decide) hN (by decide) (fun u_v hu => Option.some.inj (Option.some.inj (show some (some (.bool false)) = some (some u_v) from hu))) hW.out))
                  | 18, _ =>
                    obtain rfl := Option.some.inj ho
                    have l17 : L 17 = true := dep_of hd (n := 17) (by decide)
                    have e102 : T.getD 102 undef = .bool false := hF.out.val 17 102 _ l17 rfl rfl
                    clear hd ho hi hc hLi
                    exact st_val (v := .bool true) (w' := W) (by rw [want_some (j := 17) (s := 102) rfl rfl e102]; rfl) (by unfold execOp; dsimp only [Act.eval]; simp only [f14]; go_simp) (hK.out _ _ (hF.out.put (k := 18) (s := 103) rfl (by decide) hN (by decide) (fun u_v hu => Option.some.inj (Option.some.inj (show some (some (.bool true)) = some (some u_v) from hu))) hW.out))
                  | 19, _ =>
                    obtain rfl := Option.some.inj ho
                    have l18 : L 18 = true := dep_of hd (n := 18) (by decide)
                    have e103 : T.getD 103 undef = .bool true := hF.out.val 18 103 _ l18 rfl rfl
                    have l17 : L 17 = true := dep_of hd (n := 17) (by decide)
                    have e102 : T.getD 102 undef = .bool false := hF.out.val 17 102 _ l17 rfl rfl
                    clear hd ho hi hc hLi
                    exact st_val (v := .bool true) (w' := W) (by rw [want_some (j := 17) (s := 102) rfl rfl e102]; rfl) (by unfold execOp; dsimp only [Act.eval]; simp only [e103]; go_simp) (hK.out _ _ (hF.out.put (k := 19) (s := 104) rfl (by decide) hN (by decide) (fun u_v hu => Option.some.inj (Option.some.inj (show some (some (.bool true)) = some (some u_v) from hu))) hW.out))
                  | 20, _ =>
                    obtain rfl := Option.some.inj ho
                    have l19 : L 19 = true := dep_of hd (n := 19) (by decide)
                    have e104 : T.getD 104 undef = .bool true := hF.out.val 19 104 _ l19 rfl rfl
                    clear hd ho hi hc hLi
                    exact st_val (v := .pointer (some ⟨mx, 0, none⟩)) (w' := W) (by rw [want_some (j := 19) (s := 104) rfl rfl e104]; rfl) (by unfold execOp; dsimp only [Act.eval]; simp only [f13]; go_simp) (hK.out _ _ (hF.out.put (k := 20) (s := 105) rfl (by decide) hN (by decide) (fun u_v hu => Option.some.inj (Option.some.inj (show some (some (.pointer (some ⟨mx, 0, none⟩))) = some (some u_v) from hu))) hW.out))
                  | 21, _ =>
                    obtain rfl := Option.some.inj ho
                    have l19 : L 19 = true := dep_of hd (n := 19) (by decide)
                    have e104 : T.getD 104 undef = .bool true := hF.out.val 19 104 _ l19 rfl rfl
                    clear hd ho hi hc hLi
                    exact st_val (v := .pointer (some ⟨q, 0, none⟩)) (w' := W) (by rw [want_some (j := 19) (s := 104) rfl rfl e104]; rfl) (by unfold execOp; dsimp only [Act.eval]; simp only [f8]; go_simp) (hK.out _ _ (hF.out.put (k := 21) (s := 106) rfl (by decide) hN (by decide) (fun u_v hu => Option.some.inj (Option.some.inj (show some (some (.pointer (some ⟨q, 0, none⟩))) = some (some u_v) from hu))) hW.out))
                  | 22, _ =>
                    obtain rfl := Option.some.inj ho
                    have l21 : L 21 = true := dep_of hd (n := 21) (by decide)
                    have e106 : T.getD 106 undef = .pointer (some ⟨q, 0, none⟩) := hF.out.val 21 106 _ l21 rfl rfl
                    have l19 : L 19 = true := dep_of hd (n := 19) (by decide)
                    have e104 : T.getD 104 undef = .bool true := hF.out.val 19 104 _ l19 rfl rfl
                    have hcc := (hcx.out W hW.out).1
                    clear hd ho hi hc hLi
                    exact st_val (v := .slice (some ⟨b1, o1, none⟩) n cI) (w' := W) (by rw [want_some (j := 19) (s := 104) rfl rfl e104]; rfl) (by unfold execOp; dsimp only [Act.eval]; simp only [e106]; go_simp) (hK.out _ _ (hF.out.put (k := 22) (s := 107) rfl (by decide) hN (by decide) (fun u_v hu => Option.some.inj (Option.some.inj (show some (some (.slice (some ⟨b1, o1, none⟩) n cI)) = some (some u_v) from hu))) hW.out))
                  | 23, _ =>
                    obtain rfl := Option.some.inj ho
                    have l19 : L 19 = true := dep_of hd (n := 19) (by decide)
                    have e104 : T.getD 104 undef = .bool true := hF.out.val 19 104 _ l19 rfl rfl
                    clear hd ho hi hc hLi
                    exact st_val (v := .int .i64 k) (w' := W) (by rw [want_some (j := 19) (s := 104) rfl rfl e104]; rfl) (by unfold execOp; dsimp only [Act.eval]; simp only [f16]; go_simp) (hK.out _ _ (hF.out.put (k := 23) (s := 108) rfl (by decide) hN (by decide) (fun u_v hu => Option.some.inj (Option.some.inj (show some (some (.int .i64 k)) = some (some u_v) from hu))) hW.out))
                  | 24, _ =>
                    obtain rfl := Option.some.inj ho
                    have l22 : L 22 = true := dep_of hd (n := 22) (by decide)
                    have e107 : T.getD 107 undef = .slice (some ⟨b1, o1, none⟩) n cI := hF.out.val 22 107 _ l22 rfl rfl
                    have l23 : L 23 = true := dep_of hd (n := 23) (by decide)
                    have e108 : T.getD 108 undef = .int .i64 k := hF.out.val 23 108 _ l23 rfl rfl
                    have l19 : L 19 = true := dep_of hd (n := 19) (by decide)
                    have e104 : T.getD 104 undef = .bool true := hF.out.val 19 104 _ l19 rfl rfl
                    clear hd ho hi hc hLi
                    exact st_val (v := .pointer (some ⟨b1, o1 + k, none⟩)) (w' := W) (by rw [want_some (j := 19) (s := 104) rfl rfl e104]; rfl) (by unfold execOp; dsimp only [Act.eval]; simp only [e107, e108]; go_simp) (hK.out _ _ (hF.out.put (k := 24) (s := 109) rfl (by decide) hN (by decide) (fun u_v hu => Option.some.inj (Option.some.inj (show some (some (.pointer (some ⟨b1, o1 + k, none⟩))) = some (some u_v) from hu))) hW.out))
                  | 25, _ =>
                    obtain rfl := Option.some.inj ho
                    have l24 : L 24 = true := dep_of hd (n := 24) (by decide)
                    have e109 : T.getD 109 undef = .pointer (some ⟨b1, o1 + k, none⟩) := hF.out.val 24 109 _ l24 rfl rfl
                    have l19 : L 19 = true := dep_of hd (n := 19) (by decide)
                    have e104 : T.getD 104 undef = .bool true := hF.out.val 19 104 _ l19 rfl rfl
                    have hcc := (hcx.out W hW.out).2
                    clear hd ho hi hc hLi
                    exact st_val (v := .int .i64 x) (w' := W) (by rw [want_some (j := 19) (s := 104) rfl rfl e104]; rfl) (by unfold execOp; dsimp only [Act.eval]; simp only [e109]; go_simp) (hK.out _ _ (hF.out.put (k := 25) (s := 110) rfl (by decide) hN (by decide) (fun u_v hu => Option.some.inj (Option.some.inj (show some (some (.int .i64 x)) = some (some u_v) from hu))) hW.out))
                  | 26, _ =>
                    obtain rfl := Option.some.inj ho
                    have l20 : L 20 = true := dep_of hd (n := 20) (by decide)
                    have e105 : T.getD 105 undef = .pointer (some ⟨mx, 0, none⟩) := hF.out.val 20 105 _ l20 rfl rfl
                    have l25 : L 25 = true := dep_of hd (n := 25) (by decide)
                    have e110 : T.getD 110 undef = .int .i64 x := hF.out.val 25 110 _ l25 rfl rfl
                    have l19 : L 19 = true := dep_of hd (n := 19) (by decide)
                    have e104 : T.getD 104 undef = .bool true := hF.out.val 19 104 _ l19 rfl rfl
                    have cc := Lib.hid (cCx.out W hW.out)
                    clear hd ho hi hc hLi
                    refine st_call (by rw [want_some (j := 19) (s := 104) rfl rfl e104]; rfl) (by unfold execOp; go_simp) cc.out ?_
                    rintro r wz ⟨rfl, hb4⟩
                    exact ⟨_, rfl, hK.out _ _ (hF.out.put (k := 26) (s := 111) rfl (by decide) hN (by decide) (fun u_v hu => Option.some.inj (Option.some.inj (show some (some (.bool false)) = some (some u_v) from hu))) (hW.out.trans (hb4.mono hW.out.size)))⟩
                  | 27, _ =>
                    obtain rfl := Option.some.inj ho
                    have l19 : L 19 = true := dep_of hd (n := 19) (by decide)
                    have e104 : T.getD 104 undef = .bool true := hF.out.val 19 104 _ l19 rfl rfl
                    clear hd ho hi hc hLi
                    exact st_val (v := .pointer (some ⟨my, 0, none⟩)) (w' := W) (by rw [want_some (j := 19) (s := 104) rfl rfl e104]; rfl) (by unfold execOp; dsimp only [Act.eval]; simp only [f15]; go_simp) (hK.out _ _ (hF.out.put (k := 27) (s := 112) rfl (by decide) hN (by decide) (fun u_v hu => Option.some.inj (Option.some.inj (show some (some (.pointer (some ⟨my, 0, none⟩))) = some (some u_v) from hu))) hW.out))
                  | 28, _ =>
                    obtain rfl := Option.some.inj ho
                    have l19 : L 19 = true := dep_of hd (n := 19) (by decide)
                    have e104 : T.getD 104 undef = .bool true := hF.out.val 19 104 _ l19 rfl rfl
                    clear hd ho hi hc hLi
                    exact st_val (v := .pointer (some ⟨q, 0, none⟩)) (w' := W) (by rw [want_some (j := 19) (s := 104) rfl rfl e104]; rfl) (by unfold execOp; dsimp only [Act.eval]; simp only [f8]; go_simp) (hK.out _ _ (hF.out.put (k := 28) (s := 113) rfl (by decide) hN (by decide) (fun u_v hu => Option.some.inj (Option.some.inj (show some (some (.pointer (some ⟨q, 0, none⟩))) = some (some u_v) from hu))) hW.out))
                  | 29, _ =>
                    obtain rfl := Option.some.inj ho
                    have l28 : L 28 = true := dep_of hd (n := 28) (by decide)
                    have e113 : T.getD 113 undef = .pointer (some ⟨q, 0, none⟩) := hF.out.val 28 113 _ l28 rfl rfl
                    have l19 : L 19 = true := dep_of hd (n := 19) (by decide)
                    have e104 : T.getD 104 undef = .bool true := hF.out.val 19 104 _ l19 rfl rfl
                    have hcc := (hcx.out W hW.out).1
                    clear hd ho hi hc hLi
                    exact st_val (v := .slice (some ⟨b1, o1, none⟩) n cI) (w' := W) (by rw [want_some (j := 19) (s := 104) rfl rfl e104]; rfl) (by unfold execOp; dsimp only [Act.eval]; simp only [e113]; go_simp) (hK.out _ _ (hF.out.put (k := 29) (s := 114) rfl (by decide) hN (by decide) (fun u_v hu => Option.some.inj (Option.some.inj (show some (some (.slice (some ⟨b1, o1, none⟩) n cI)) = some (some u_v) from hu))) hW.out))
                  | 30, _ =>
                    obtain rfl := Option.some.inj ho
                    have l19 : L 19 = true := dep_of hd (n := 19) (by decide)
                    have e104 : T.getD 104 undef = .bool true := hF.out.val 19 104 _ l19 rfl rfl
                    clear hd ho hi hc hLi
                    exact st_val (v := .int .i64 k) (w' := W) (by rw [want_some (j := 19) (s := 104) rfl rfl e104]; rfl) (by unfold execOp; dsimp only [Act.eval]; simp only [f16]; go_simp) (hK.out _ _ (hF.out.put (k := 30) (s := 115) rfl (by decide) hN (by decide) (fun u_v hu => Option.some.inj (Option.some.inj (show some (some (.int .i64 k)) = some (some u_v) from hu))) hW.out))
                  | 31, _ =>
                    obtain rfl := Option.some.inj ho
                    have l29 : L 29 = true := dep_of hd (n := 29) (by decide)
                    have e114 : T.getD 114 undef = .slice (some ⟨b1, o1, none⟩) n cI := hF.out.val 29 114 _ l29 rfl rfl
                    have l30 : L 30 = true := dep_of hd (n := 30) (by decide)
                    have e115 : T.getD 115 undef = .int .i64 k := hF.out.val 30 115 _ l30 rfl rfl
                    have l19 : L 19 = true := dep_of hd (n := 19) (by decide)
                    have e104 : T.getD 104 undef = .bool true := hF.out.val 19 104 _ l19 rfl rfl
                    clear hd ho hi hc hLi
                    exact st_val (v := .pointer (some ⟨b1, o1 + k, none⟩)) (w' := W) (by rw [want_some (j := 19) (s := 104) rfl rfl e104]; rfl) (by unfold execOp; dsimp only [Act.eval]; simp only [e114, e115]; go_simp) (hK.out _ _ (hF.out.put (k := 31) (s := 116) rfl (by decide) hN (by decide) (fun u_v hu => Option.some.inj (Option.some.inj (show some (some (.pointer (some ⟨b1, o1 + k, none⟩))) = some (some u_v) from hu))) hW.out))
                  | 32, _ =>
                    obtain rfl := Option.some.inj ho
                    have l31 : L 31 = true := dep_of hd (n := 31) (by decide)
                    have e116 : T.getD 116 undef = .pointer (some ⟨b1, o1 + k, none⟩) := hF.out.val 31 116 _ l31 rfl rfl
                    have l19 : L 19 = true := dep_of hd (n := 19) (by decide)
                    have e104 : T.getD 104 undef = .bool true := hF.out.val 19 104 _ l19 rfl rfl
                    have hcc := (hcx.out W hW.out).2
                    clear hd ho hi hc hLi
                    exact st_val (v := .int .i64 x) (w' := W) (by rw [want_some (j := 19) (s := 104) rfl rfl e104]; rfl) (by unfold execOp; dsimp only [Act.eval]; simp only [e116]; go_simp) (hK.out _ _ (hF.out.put (k := 32) (s := 117) rfl (by decide) hN (by decide) (fun u_v hu => Option.some.inj (Option.some.inj (show some (some (.int .i64 x)) = some (some u_v) from hu))) hW.out))
                  | 33, _ =>
                    obtain rfl := Option.some.inj ho
                    have l27 : L 27 = true := dep_of hd (n := 27) (by decide)
                    have e112 : T.getD 112 undef = .pointer (some ⟨my, 0, none⟩) := hF.out.val 27 112 _ l27 rfl rfl
                    have l32 : L 32 = true := dep_of hd (n := 32) (by decide)
                    have e117 : T.getD 117 undef = .int .i64 x := hF.out.val 32 117 _ l32 rfl rfl
                    have l19 : L 19 = true := dep_of hd (n := 19) (by decide)
                    have e104 : T.getD 104 undef = .bool true := hF.out.val 19 104 _ l19 rfl rfl
                    have cc := Lib.hid (cCy.out W hW.out)
                    clear hd ho hi hc hLi
                    refine st_call (by rw [want_some (j := 19) (s := 104) rfl rfl e104]; rfl) (by unfold execOp; go_simp) cc.out ?_
                    rintro r wz ⟨rfl, hb4⟩
                    exact ⟨_, rfl, hK.out _ _ (hF.out.put (k := 33) (s := 118) rfl (by decide) hN (by decide) (fun u_v hu => Option.some.inj (Option.some.inj (show some (some (.bool false)) = some (some u_v) from hu))) (hW.out.trans (hb4.mono hW.out.size)))⟩
                  | 34, _ =>
                    obtain rfl := Option.some.inj ho
                    have l26 : L 26 = true := dep_of hd (n := 26) (by decide)
                    have e111 : T.getD 111 undef = .bool false := hF.out.val 26 111 _ l26 rfl rfl
                    have l33 : L 33 = true := dep_of hd (n := 33) (by decide)
                    have e118 : T.getD 118 undef = .bool false := hF.out.val 33 118 _ l33 rfl rfl
                    have l19 : L 19 = true := dep_of hd (n := 19) (by decide)
                    have e104 : T.getD 104 undef = .bool true := hF.out.val 19 104 _ l19 rfl rfl
                    clear hd ho hi hc hLi
                    exact st_val (v := .bool false) (w' := W) (by rw [want_some (j := 19) (s := 104) rfl rfl e104]; rfl) (by unfold execOp; dsimp only [Act.eval]; simp only [e111, e118]; go_simp) (hK.out _ _ (hF.out.put (k := 34) (s := 119) rfl (by decide) hN (by decide) (fun u_v hu => Option.some.inj (Option.some.inj (show some (some (.bool false)) = some (some u_v) from hu))) hW.out))
                  | 35, _ =>
                    obtain rfl := Option.some.inj ho
                    have l19 : L 19 = true := dep_of hd (n := 19) (by decide)
                    have e104 : T.getD 104 undef = .bool true := hF.out.val 19 104 _ l19 rfl rfl
                    have l34 : L 34 = true := dep_of hd (n := 34) (by decide)
                    have e119 : T.getD 119 undef = .bool false := hF.out.val 34 119 _ l34 rfl rfl
                    have l17 : L 17 = true := dep_of hd (n := 17) (by decide)
                    have e102 : T.getD 102 undef = .bool false := hF.out.val 17 102 _ l17 rfl rfl
                    clear hd ho hi hc hLi
                    exact st_val (v := .bool false) (w' := W) (by rw [want_some (j := 17) (s := 102) rfl rfl e102]; rfl) (by unfold execOp; dsimp only [Act.eval]; simp only [e104, e119]; go_simp) (hK.out _ _ (hF.out.put (k := 35) (s := 120) rfl (by decide) hN (by decide) (fun u_v hu => Option.some.inj (Option.some.inj (show some (some (.bool false)) = some (some u_v) from hu))) hW.out))
                  | 36, _ =>
                    obtain rfl := Option.some.inj ho
                    have l17 : L 17 = true := dep_of hd (n := 17) (by decide)
                    have e102 : T.getD 102 undef = .bool false := hF.out.val 17 102 _ l17 rfl rfl
                    have l35 : L 35 = true := dep_of hd (n := 35) (by decide)
                    have e120 : T.getD 120 undef = .bool false := hF.out.val 35 120 _ l35 rfl rfl
                    clear hd ho hi hc hLi
                    exact st_val (v := .bool false) (w' := W) (want_none rfl) (by unfold execOp; dsimp only [Act.eval]; simp only [e102, e120]; go_simp) (hK.out _ _ (hF.out.put (k := 36) (s := 121) rfl (by decide) hN (by decide) (fun u_v hu => Option.some.inj (Option.some.inj (show some (some (.bool false)) = some (some u_v) from hu))) hW.out))
                case hdone =>
                  intro L T W2 hF hW hall
                  have hB18 := Lib.hid (hbr.out.trans (hW.mono hbr.out.size))
                  clear hW hcx cCx cCy hb hbr
                  have hT : T = #[.slice A n c, .agg (cutC ka kb j), .int .i64 i, undef, .pointer (some ⟨p0, 0, none⟩), undef, u6, .pointer (some ⟨g, 0, none⟩), .pointer (some ⟨q, 0, none⟩), .int .i64 tx, .string tt, .slice A8 (sn + 1) c8, .int .i64 j, .pointer (some ⟨mx, 0, none⟩), .bool true, .pointer (some ⟨my, 0, none⟩), .int .i64 k, .slice A n c, .agg #[.int .i64 ka, .int .i64 kb, .int .i64 j], .bool true, .bool false, undef, .pointer (some ⟨g, 0, none⟩), .pointer (some ⟨g, 0, none⟩), .slice A n c, .agg #[.slice (some ⟨b1, o1, none⟩) n cI, .slice AT n cT], .tuple #[.int .i64 tx, .string tt], .agg #[.slice (some ⟨b1, o1, none⟩) n cI, .slice AT n cT], .int .i64 i, .tuple #[.int .i64 tx, .string tt], .int .i64 tx, .string tt, .pointer (some ⟨p0, 1, none⟩), .int .i64 kb, .int .i64 j, .pointer (some ⟨p0, 2, none⟩), .int .i64 j, .bool false, u38, u39, u40, u41, u42, u43, u44, u45, u46, u47, .pointer (some ⟨g, 0, none⟩), .pointer (some ⟨q, 0, none⟩), .slice (some ⟨b1, o1, none⟩) n cI, .pointer (some ⟨p0, 0, none⟩), .int .i64 ka, .pointer (some ⟨p0, 1, none⟩), .int .i64 kb, .slice (behind3 (some ⟨b1, o1, none⟩) ka cI) (kb - ka) (cI - ka), .slice As sn cs, .pointer (some ⟨mx, 0, none⟩), u58, u59, u60, u61, u62, u63, u64, .slice As sn cs, .int .i64 tx, .slice (some ⟨wc.heap.size, 0, none⟩) 1 1, .slice A8 (sn + 1) c8, .pointer (some ⟨g, 0, none⟩), .pointer (some ⟨q, 0, none⟩), .slice (some ⟨b1, o1, none⟩) n cI, .pointer (some ⟨p0, 0, none⟩), .int .i64 ka, .pointer (some ⟨p0, 1, none⟩), .int .i64 kb, .slice (behind3 (some ⟨b1, o1, none⟩) ka cI) (kb - ka) (cI - ka), .slice A8 (sn + 1) c8, .pointer (some ⟨my, 0, none⟩), .int .i64 k, .slice A n c, .int .i64 n, .bool true, u83, u84, .pointer (some ⟨mx, 0, none⟩), .pointer (some ⟨q, 0, none⟩), .slice (some ⟨b1, o1, none⟩) n cI, .int .i64 k, .pointer (some ⟨b1, o1 + k, none⟩), .int .i64 x, .bool false, .bool false, undef, undef, undef, undef, undef, undef, undef, undef, .bool false, .bool false, .bool true, .bool true, .pointer (some ⟨mx, 0, none⟩), .pointer (some ⟨q, 0, none⟩), .slice (some ⟨b1, o1, none⟩) n cI, .int .i64 k, .pointer (some ⟨b1, o1 + k, none⟩), .int .i64 x, .bool false, .pointer (some ⟨my, 0, none⟩), .pointer (some ⟨q, 0, none⟩), .slice (some ⟨b1, o1, none⟩) n cI, .int .i64 k, .pointer (some ⟨b1, o1 + k, none⟩), .int .i64 x, .bool false, .bool false, .bool false, .bool false, undef, undef, undef, undef, undef, undef, undef, undef, undef, undef] := (hF.fin [(85, .pointer (some ⟨mx, 0, none⟩)), (86, .pointer (some ⟨q, 0, none⟩)), (87, .slice (some ⟨b1, o1, none⟩) n cI), (88, .int .i64 k), (89, .pointer (some ⟨b1, o1 + k, none⟩)), (90, .int .i64 x), (91, .bool false), (92, .bool false), (93, undef), (94, undef), (95, undef), (96, undef), (97, undef), (98, undef), (99, undef), (100, undef), (101, .bool false), (102, .bool false), (103, .bool true), (104, .bool true), (105, .pointer (some ⟨mx, 0, none⟩)), (106, .pointer (some ⟨q, 0, none⟩)), (107, .slice (some ⟨b1, o1, none⟩) n cI), (108, .int .i64 k), (109, .pointer (some ⟨b1, o1 + k, none⟩)), (110, .int .i64 x), (111, .bool false), (112, .pointer (some ⟨my, 0, none⟩)), (113, .pointer (some ⟨q, 0, none⟩)), (114, .slice (some ⟨b1, o1, none⟩) n cI), (115, .int .i64 k), (116, .pointer (some ⟨b1, o1 + k, none⟩)), (117, .int .i64 x), (118, .bool false), (119, .bool false), (120, .bool false), (121, .bool false)] [85, 86, 87, 88, 89, 90, 91, 92, 93, 94, 95, 96, 97, 98, 99, 100, 101, 102, 103, 104, 105, 106, 107, 108, 109, 110, 111, 112, 113, 114, 115, 116, 117, 118, 119, 120, 121] rfl (List.forall_mem_cons.2 ⟨hF.val 0 _ _ (hall 0 (show 0 < 37 by decide)) rfl rfl, (List.forall_mem_cons.2 ⟨hF.val 1 _ _ (hall 1 (show 1 < 37 by decide)) rfl rfl, (List.forall_mem_cons.2 ⟨hF.val 2 _ _ (hall 2 (show 2 < 37 by decide)) rfl rfl, (List.forall_mem_cons.2 ⟨hF.val 3 _ _ (hall 3 (show 3 < 37 by decide)) rfl rfl, (List.forall_mem_cons.2 ⟨hF.val 4 _ _ (hall 4 (show 4 < 37 by decide)) rfl rfl, (List.forall_mem_cons.2 ⟨hF.val 5 _ _ (hall 5 (show 5 < 37 by decide)) rfl rfl, (List.forall_mem_cons.2 ⟨hF.val 6 _ _ (hall 6 (show 6 < 37 by decide)) rfl rfl, (List.forall_mem_cons.2 ⟨hF.val 7 _ _ (hall 7 (show 7 < 37 by decide)) rfl rfl, (List.forall_mem_cons.2 ⟨hF.val 8 _ _ (hall 8 (show 8 < 37 by decide)) rfl rfl, (List.forall_mem_cons.2 ⟨hF.val 9 _ _ (hall 9 (show 9 < 37 by decide)) rfl rfl, (List.forall_mem_cons.2 ⟨hF.val 10 _ _ (hall 10 (show 10 < 37 by decide)) rfl rfl, (List.forall_mem_cons.2 ⟨hF.val 11 _ _ (hall 11 (show 11 < 37 by decide)) rfl rfl, (List.forall_mem_cons.2 ⟨hF.val 12 _ _ (hall 12 (show 12 < 37 by decide)) rfl rfl, (List.forall_mem_cons.2 ⟨hF.val 13 _ _ (hall 13 (show 13 < 37 by decide)) rfl rfl, (List.forall_mem_cons.2 ⟨hF.val 14 _ _ (hall 14 (show 14 < 37 by decide)) rfl rfl, (List.forall_mem_cons.2 ⟨hF.val 15 _ _ (hall 15 (show 15 < 37 by decide)) rfl rfl, (List.forall_mem_cons.2 ⟨hF.val 16 _ _ (hall 16 (show 16 < 37 by decide)) rfl rfl, (List.forall_mem_cons.2 ⟨hF.val 17 _ _ (hall 17 (show 17 < 37 by decide)) rfl rfl, (List.forall_mem_cons.2 ⟨hF.val 18 _ _ (hall 18 (show 18 < 37 by decide)) rfl rfl, (List.forall_mem_cons.2 ⟨hF.val 19 _ _ (hall 19 (show 19 < 37 by decide)) rfl rfl, (List.forall_mem_cons.2 ⟨hF.val 20 _ _ (hall 20 (show 20 < 37 by decide)) rfl rfl, (List.forall_mem_cons.2 ⟨hF.val 21 _ _ (hall 21 (show 21 < 37 by decide)) rfl rfl, (List.forall_mem_cons.2 ⟨hF.val 22 _ _ (hall 22 (show 22 < 37 by decide)) rfl rfl, (List.forall_mem_cons.2 ⟨hF.val 23 _ _ (hall 23 (show 23 < 37 by decide)) rfl rfl, (List.forall_mem_cons.2 ⟨hF.val 24 _ _ (hall 24 (show 24 < 37 by decide)) rfl rfl, (List.forall_mem_cons.2 ⟨hF.val 25 _ _ (hall 25 (show 25 < 37 by decide)) rfl rfl, (List.forall_mem_cons.2 ⟨hF.val 26 _ _ (hall 26 (show 26 < 37 by decide)) rfl rfl, (List.forall_mem_cons.2 ⟨hF.val 27 _ _ (hall 27 (show 27 < 37 by decide)) rfl rfl, (List.forall_mem_cons.2 ⟨hF.val 28 _ _ (hall 28 (show 28 < 37 by decide)) rfl rfl, (List.forall_mem_cons.2 ⟨hF.val 29 _ _ (hall 29 (show 29 < 37 by decide)) rfl rfl, (List.forall_mem_cons.2 ⟨hF.val 30 _ _ (hall 30 (show 30 < 37 by decide)) rfl rfl, (List.forall_mem_cons.2 ⟨hF.val 31 _ _ (hall 31 (show 31 < 37 by decide)) rfl rfl, (List.forall_mem_cons.2 ⟨hF.val 32 _ _ (hall 32 (show 32 < 37 by decide)) rfl rfl, (List.forall_mem_cons.2 ⟨hF.val 33 _ _ (hall 33 (show 33 < 37 by decide)) rfl rfl, (List.forall_mem_cons.2 ⟨hF.val 34 _ _ (hall 34 (show 34 < 37 by decide)) rfl rfl, (List.forall_mem_cons.2 ⟨hF.val 35 _ _ (hall 35 (show 35 < 37 by decide)) rfl rfl, (List.forall_mem_cons.2 ⟨hF.val 36 _ _ (hall 36 (show 36 < 37 by decide)) rfl rfl, (fun _ h => absurd h List.not_mem_nil)⟩)⟩)⟩)⟩)⟩)⟩)⟩)⟩)⟩)⟩)⟩)⟩)⟩)⟩)⟩)⟩)⟩)⟩)⟩)⟩)⟩)⟩)⟩)⟩)⟩)⟩)⟩)⟩)⟩)⟩)⟩)⟩)⟩)⟩)⟩)⟩)⟩) (by decide)).trans (by kernel_rfl)
                  clear hF hall
                  subst hT
                  go_wp2_with fail
                  go_roundw
                  case rel => exact ⟨k + 1, by omega, by go_num, hB18⟩
                  case measure => simp [intOf]; omega
              · refine region_iw tbSd18c dsSd18c (vsSd18c q b1 o1 n cI k x mx my) (fun L T W => Below wr.heap.size wr W) rfl (by decide) (by kernel_rfl) ?hlt ?hstep ?hdone ?hstart
                case hstart => exact drewN_below 1
                case hlt =>
                  intro ix o ho
                  have hi := (Array.getElem?_eq_some_iff.1 ho).1
                  match ix, hi with
                  | 0, _ => obtain rfl := Option.some.inj ho; decide
                  | 1, _ => obtain rfl := Option.some.inj ho; decide
                  | 2, _ => obtain rfl := Option.some.inj ho; decide
                  | 3, _ => obtain rfl := Option.some.inj ho; decide
                  | 4, _ => obtain rfl := Option.some.inj ho; decide
                  | 5, _ => obtain rfl := Option.some.inj ho; decide
                  | 6, _ => obtain rfl := Option.some.inj ho; decide
                  | 7, _ => obtain rfl := Option.some.inj ho; decide
                  | 8, _ => obtain rfl := Option.some.inj ho; decide
                  | 9, _ => obtain rfl := Option.some.inj ho; decide
                  | 10, _ => obtain rfl := Option.some.inj ho; decide
                  | 11, _ => obtain rfl := Option.some.inj ho; decide
                  | 12, _ => obtain rfl := Option.some.inj ho; decide
                  | 13, _ => obtain rfl := Option.some.inj ho; decide
                  | 14, _ => obtain rfl := Option.some.inj ho; decide
                  | 15, _ => obtain rfl := Option.some.inj ho; decide
                  | 16, _ => obtain rfl := Option.some.inj ho; decide
                  | 17, _ => obtain rfl := Option.some.inj ho; decide
                  | 18, _ => obtain rfl := Option.some.inj ho; decide
                  | 19, _ => obtain rfl := Option.some.inj ho; decide
                  | 20, _ => obtain rfl := Option.some.inj ho; decide
                  | 21, _ => obtain rfl := Option.some.inj ho; decide
                  | 22, _ => obtain rfl := Option.some.inj ho; decide
                  | 23, _ => obtain rfl := Option.some.inj ho; decide
                  | 24, _ => obtain rfl := Option.some.inj ho; decide
                  | 25, _ => obtain rfl := Option.some.inj ho; decide
                  | 26, _ => obtain rfl := Option.some.inj ho; decide
                  | 27, _ => obtain rfl := Option.some.inj ho; decide
                  | 28, _ => obtain rfl := Option.some.inj ho; decide
                  | 29, _ => obtain rfl := Option.some.inj ho; decide
                  | 30, _ => obtain rfl := Option.some.inj ho; decide
                  | 31, _ => obtain rfl := Option.some.inj ho; decide
                  | 32, _ => obtain rfl := Option.some.inj ho; decide
                  | 33, _ => obtain rfl := Option.some.inj ho; decide
                  | 34, _ => obtain rfl := Option.some.inj ho; decide
                  | 35, _ => obtain rfl := Option.some.inj ho; decide
                  | 36, _ => obtain rfl := Option.some.inj ho; decide
                case hstep =>
                  intro T1 hE L T W ix o hF hW hc ho hLi hd K hK
                  have hN : T1.size = 132 := by rw [hE]; rfl
                  have f8 : T.getD 8 undef = .pointer (some ⟨q, 0, none⟩) := (hF.old 8 (by decide)).trans (by rw [hE]; rfl)
                  have f13 : T.getD 13 undef = .pointer (some ⟨mx, 0, none⟩) := (hF.old 13 (by decide)).trans (by rw [hE]; rfl)
                  have f14 : T.getD 14 undef = .bool false := (hF.old 14 (by decide)).trans (by rw [hE]; rfl)
                  have f16 : T.getD 16 undef = .int .i64 k := (hF.old 16 (by decide)).trans (by rw [hE]; rfl)
                  clear hE
                  replace hF := Lib.hid hF
                  replace hW := Lib.hid hW
                  replace hK := Lib.hid hK
                  have hi := (List.getElem?_eq_some_iff.1 ho).1
                  match ix, hi with
                  | 0, _ =>
                    obtain rfl := Option.some.inj ho
                    clear hd ho hi hc hLi
                    exact st_val (v := .pointer (some ⟨mx, 0, none⟩)) (w' := W) (want_none rfl) (by unfold execOp; dsimp only [Act.eval]; simp only [f13]; go_simp) (hK.out _ _ (hF.out.put (k := 0) (s := 85) rfl (by decide) hN (by decide) (fun u_v hu => Option.some.inj (Option.some.inj (show some (some (.pointer (some ⟨mx, 0, none⟩))) = some (some u_v) from hu))) hW.out))
                  | 1, _ =>
                    obtain rfl := Option.some.inj ho
                    clear hd ho hi hc hLi
                    exact st_val (v := .pointer (some ⟨q, 0, none⟩)) (w' := W) (want_none rfl) (by unfold execOp; dsimp only [Act.eval]; simp only [f8]; go_simp) (hK.out _ _ (hF.out.put (k := 1) (s := 86) rfl (by decide) hN (by decide) (fun u_v hu => Option.some.inj (Option.some.inj (show some (some (.pointer (some ⟨q, 0, none⟩))) = some (some u_v) from hu))) hW.out))
                  | 2, _ =>
                    obtain rfl := Option.some.inj ho
                    have l1 : L 1 = true := dep_of hd (n := 1) (by decide)
                    have e86 : T.getD 86 undef = .pointer (some ⟨q, 0, none⟩) := hF.out.val 1 86 _ l1 rfl rfl
                    have hcc := (hcx.out W hW.out).1
                    clear hd ho hi hc hLi
                    exact st_val (v := .slice (some ⟨b1, o1, none⟩) n cI) (w' := W) (want_none rfl) (by unfold execOp; dsimp only [Act.eval]; simp only [e86]; go_simp) (hK.out _ _ (hF.out.put (k := 2) (s := 87) rfl (by decide) hN (by decide) (fun u_v hu => Option.some.inj (Option.some.inj (show some (some (.slice (some ⟨b1, o1, none⟩) n cI)) = some (some u_v) from hu))) hW.out))
                  | 3, _ =>
                    obtain rfl := Option.some.inj ho
                    clear hd ho hi hc hLi
                    exact st_val (v := .int .i64 k) (w' := W) (want_none rfl) (by unfold execOp; dsimp only [Act.eval]; simp only [f16]; go_simp) (hK.out _ _ (hF.out.put (k := 3) (s := 88) rfl (by decide) hN (by decide) (fun u_v hu => Option.some.inj (Option.some.inj (show some (some (.int .i64 k)) = some (some u_v) from hu))) hW.out))
                  | 4, _ =>
                    obtain rfl := Option.some.inj ho
                    have l2 : L 2 = true := dep_of hd (n := 2) (by decide)
                    have e87 : T.getD 87 undef = .slice (some ⟨b1, o1, none⟩) n cI := hF.out.val 2 87 _ l2 rfl rfl
                    have l3 : L 3 = true := dep_of hd (n := 3) (by decide)
                    have e88 : T.getD 88 undef = .int .i64 k := hF.out.val 3 88 _ l3 rfl rfl
                    clear hd ho hi hc hLi
                    exact st_val (v := .pointer (some ⟨b1, o1 + k, none⟩)) (w' := W) (want_none rfl) (by unfold execOp; dsimp only [Act.eval]; simp only [e87, e88]; go_simp) (hK.out _ _ (hF.out.put (k := 4) (s := 89) rfl (by decide) hN (by decide) (fun u_v hu => Option.some.inj (Option.some.inj (show some (some (.pointer (some ⟨b1, o1 + k, none⟩))) = some (some u_v) from hu))) hW.out))
                  | 5, _ =>
                    obtain rfl := Option.some.inj ho
                    have l4 : L 4 = true := dep_of hd (n := 4) (by decide)
                    have e89 : T.getD 89 undef = .pointer (some ⟨b1, o1 + k, none⟩) := hF.out.val 4 89 _ l4 rfl rfl
                    have hcc := (hcx.out W hW.out).2
                    clear hd ho hi hc hLi
                    exact st_val (v := .int .i64 x) (w' := W) (want_none rfl) (by unfold execOp; dsimp only [Act.eval]; simp only [e89]; go_simp) (hK.out _ _ (hF.out.put (k := 5) (s := 90) rfl (by decide) hN (by decide) (fun u_v hu => Option.some.inj (Option.some.inj (show some (some (.int .i64 x)) = some (some u_v) from hu))) hW.out))
                  | 6, _ =>
                    obtain rfl := Option.some.inj ho
                    have l0 : L 0 = true := dep_of hd (n := 0) (by decide)
                    have e85 : T.getD 85 undef = .pointer (some ⟨mx, 0, none⟩) := hF.out.val 0 85 _ l0 rfl rfl
                    have l5 : L 5 = true := dep_of hd (n := 5) (by decide)
                    have e90 : T.getD 90 undef = .int .i64 x := hF.out.val 5 90 _ l5 rfl rfl
                    have cc := Lib.hid (cCx.out W hW.out)
                    clear hd ho hi hc hLi
                    refine st_call (want_none rfl) (by unfold execOp; go_simp) cc.out ?_
                    rintro r wz ⟨rfl, hb4⟩
                    exact ⟨_, rfl, hK.out _ _ (hF.out.put (k := 6) (s := 91) rfl (by decide) hN (by decide) (fun u_v hu => Option.some.inj (Option.some.inj (show some (some (.bool false)) = some (some u_v) from hu))) (hW.out.trans (hb4.mono hW.out.size)))⟩
                  | 7, _ =>
                    obtain rfl := Option.some.inj ho
                    have l6 : L 6 = true := dep_of hd (n := 6) (by decide)
                    have e91 : T.getD 91 undef = .bool false := hF.out.val 6 91 _ l6 rfl rfl
                    clear hd ho hi hc hLi
                    exact st_val (v := .bool false) (w' := W) (want_none rfl) (by unfold execOp; dsimp only [Act.eval]; simp only [e91]; go_simp) (hK.out _ _ (hF.out.put (k := 7) (s := 92) rfl (by decide) hN (by decide) (fun u_v hu => Option.some.inj (Option.some.inj (show some (some (.bool false)) = some (some u_v) from hu))) hW.out))
                  | 8, _ =>
                    obtain rfl := Option.some.inj ho
                    have l7 : L 7 = true := dep_of hd (n := 7) (by decide)
                    have e92 : T.getD 92 undef = .bool false := hF.out.val 7 92 _ l7 rfl rfl
                    clear hd ho hi hc hLi
                    exact st_no (by rw [want_some (j := 7) (s := 92) rfl rfl e92]; rfl) (hK.out _ _ (hF.out.put (k := 8) (s := 93) rfl (by decide) hN (by decide) (fun u_v hu => Option.some.inj (Option.some.inj (show some (some (undef)) = some (some u_v) from hu))) hW.out))
                  | 9, _ =>
                    obtain rfl := Option.some.inj ho
                    have l7 : L 7 = true := dep_of hd (n := 7) (by decide)
                    have e92 : T.getD 92 undef = .bool false := hF.out.val 7 92 _ l7 rfl rfl
                    clear hd ho hi hc hLi
                    exact st_no (by rw [want_some (j := 7) (s := 92) rfl rfl e92]; rfl) (hK.out _ _ (hF.out.put (k := 9) (s := 94) rfl (by decide) hN (by decide) (fun u_v hu => Option.some.inj (Option.some.inj (show some (some (undef)) = some (some u_v) from hu))) hW.out))
                  | 10, _ =>
                    obtain rfl := Option.some.inj ho
                    have l7 : L 7 = true := dep_of hd (n := 7) (by decide)
                    have e92 : T.getD 92 undef = .bool false := hF.out.val 7 92 _ l7 rfl rfl
                    clear hd ho hi hc hLi
                    exact st_no (by rw [want_some (j := 7) (s := 92) rfl rfl e92]; rfl) (hK.out _ _ (hF.out.put (k := 10) (s := 95) rfl (by decide) hN (by decide) (fun u_v hu => Option.some.inj (Option.some.inj (show some (some (undef)) = some (some u_v) from hu))) hW.out))
                  | 11, _ =>
                    obtain rfl := Option.some.inj ho
                    have l7 : L 7 = true := dep_of hd (n := 7) (by decide)
                    have e92 : T.getD 92 undef = .bool false := hF.out.val 7 92 _ l7 rfl rfl
                    clear hd ho hi hc hLi
                    exact st_no (by rw [want_some (j := 7) (s := 92) rfl rfl e92]; rfl) (hK.out _ _ (hF.out.put (k := 11) (s := 96) rfl (by decide) hN (by decide) (fun u_v hu => Option.some.inj (Option.some.inj (show some (some (undef)) = some (some u_v) from hu))) hW.out))
                  | 12, _ =>
                    obtain rfl := Option.some.inj ho
                    have l7 : L 7 = true := dep_of hd (n := 7) (by decide)
                    have e92 : T.getD 92 undef = .bool false := hF.out.val 7 92 _ l7 rfl rfl
                    clear hd ho hi hc hLi
                    exact st_no (by rw [want_some (j := 7) (s := 92) rfl rfl e92]; rfl) (hK.out _ _ (hF.out.put (k := 12) (s := 97) rfl (by decide) hN (by decide) (fun u_v hu => Option.some.inj (Option.some.inj (show some (some (undef)) = some (some u_v) from hu))) hW.out))
                  | 13, _ =>
                    obtain rfl := Option.some.inj ho
                    have l7 : L 7 = true := dep_of hd (n := 7) (by decide)
                    have e92 : T.getD 92 undef = .bool false := hF.out.val 7 92 _ l7 rfl rfl
                    clear hd ho hi hc hLi
                    exact st_no (by rw [want_some (j := 7) (s := 92) rfl rfl e92]; rfl) (hK.out _ _ (hF.out.put (k := 13) (s := 98) rfl (by decide) hN (by decide) (fun u_v hu => Option.some.inj (Option.some.inj (show some (some (undef)) = some (some u_v) from hu))) hW.out))
                  | 14, _ =>
                    obtain rfl := Option.some.inj ho
                    have l7 : L 7 = true := dep_of hd (n := 7) (by decide)
                    have e92 : T.getD 92 undef = .bool false := hF.out.val 7 92 _ l7 rfl rfl
                    have cc := Lib.hid (cCy.out W hW.out)
                    clear hd ho hi hc hLi
                    exact st_no (by rw [want_some (j := 7) (s := 92) rfl rfl e92]; rfl) (hK.out _ _ (hF.out.put (k := 14) (s := 99) rfl (by decide) hN (by decide) (fun u_v hu => Option.some.inj (Option.some.inj (show some (some (undef)) = some (some u_v) from hu))) hW.out))
                  | 15, _ =>
                    obtain rfl := Option.some.inj ho
                    have l7 : L 7 = true := dep_of hd (n := 7) (by decide)
                    have e92 : T.getD 92 undef = .bool false := hF.out.val 7 92 _ l7 rfl rfl
                    clear hd ho hi hc hLi
                    exact st_no (by rw [want_some (j := 7) (s := 92) rfl rfl e92]; rfl) (hK.out _ _ (hF.out.put (k := 15) (s := 100) rfl (by decide) hN (by decide) (fun u_v hu => Option.some.inj (Option.some.inj (show some (some (undef)) = some (some u_v) from hu))) hW.out))
                  | 16, _ =>
                    obtain rfl := Option.some.inj ho
                    have l7 : L 7 = true := dep_of hd (n := 7) (by decide)
                    have e92 : T.getD 92 undef = .bool false := hF.out.val 7 92 _ l7 rfl rfl
                    have l15 : L 15 = true := dep_of hd (n := 15) (by decide)
                    have e100 : T.getD 100 undef = undef := hF.out.val 15 100 _ l15 rfl rfl
                    clear hd ho hi hc hLi
                    exact st_val (v := .bool false) (w' := W) (want_none rfl) (by unfold execOp; dsimp only [Act.eval]; simp only [e92, e100]; go_simp) (hK.out _ _ (hF.out.put (k := 16) (s := 101) rfl (by decide) hN (by decide) (fun u_v hu => Option.some.inj (Option.some.inj (show some (some (.bool false)) = some (some u_v) from hu))) hW.out))
                  | 17, _ =>
                    obtain rfl := Option.some.inj ho
                    have l16 : L 16 = true := dep_of hd (n := 16) (by decide)
                    have e101 : T.getD 101 undef = .bool false := hF.out.val 16 101 _ l16 rfl rfl
                    clear hd ho hi hc hLi
                    exact st_val (v := .bool false) (w' := W) (want_none rfl) (by unfold execOp; dsimp only [Act.eval]; simp only [e101]; go_simp) (hK.out _ _ (hF.out.put (k := 17) (s := 102) rfl (by decide) hN (by decide) (fun u_v hu => Option.some.inj (Option.some.inj (show some (some (.bool false)) = some (some u_v) from hu))) hW.out))
                  | 18, _ =>
                    obtain rfl := Option.some.inj ho
                    have l17 : L 17 = true := dep_of hd (n := 17) (by decide)
                    have e102 : T.getD 102 undef = .bool false := hF.out.val 17 102 _ l17 rfl rfl
                    clear hd ho hi hc hLi
                    exact st_val (v := .bool false) (w' := W) (by rw [want_some (j := 17) (s := 102) rfl rfl e102]; rfl) (by unfold execOp; dsimp only [Act.eval]; simp only [f14]; go_simp) (hK.out _ _ (hF.out.put (k := 18) (s := 103) rfl (by decide) hN (by decide) (fun u_v hu => Option.some.inj (Option.some.inj (show some (some (.bool false)) = some (some u_v) from hu))) hW.out))
                  | 19, _ =>
                    obtain rfl := Option.some.inj ho
                    have l18 : L 18 = true := dep_of hd (n := 18) (by decide)
                    have e103 : T.getD 103 undef = .bool false := hF.out.val 18 103 _ l18 rfl rfl
                    have l17 : L 17 = true := dep_of hd (n := 17) (by decide)
                    have e102 : T.getD 102 undef = .bool false := hF.out.val 17 102 _ l17 rfl rfl
                    clear hd ho hi hc hLi
                    exact st_val (v := .bool false) (w' := W) (by rw [want_some (j := 17) (s := 102) rfl rfl e102]; rfl) (by unfold execOp; dsimp only [Act.eval]; simp only [e103]; go_simp) (hK.out _ _ (hF.out.put (k := 19) (s := 104) rfl (by decide) hN (by decide) (fun u_v hu => Option.some.inj (Option.some.inj (show some (some (.bool false)) = some (some u_v) from hu))) hW.out))
                  | 20, _ =>
                    obtain rfl := Option.some.inj ho
                    have l19 : L 19 = true := dep_of hd (n := 19) (by decide)
                    have e104 : T.getD 104 undef = .bool false := hF.out.val 19 104 _ l19 rfl rfl
                    clear hd ho hi hc hLi
                    exact st_no (by rw [want_some (j := 19) (s := 104) rfl rfl e104]; rfl) (hK.out _ _ (hF.out.put (k := 20) (s := 105) rfl (by decide) hN (by decide) (fun u_v hu => Option.some.inj (Option.some.inj (show some (some (undef)) = some (some u_v) from hu))) hW.out))
                  | 21, _ =>
                    obtain rfl := Option.some.inj ho
                    have l19 : L 19 = true := dep_of hd (n := 19) (by decide)
                    have e104 : T.getD 104 undef = .bool false := hF.out.val 19 104 _ l19 rfl rfl
                    clear hd ho hi hc hLi
                    exact st_no (by rw [want_some (j := 19) (s := 104) rfl rfl e104]; rfl) (hK.out _ _ (hF.out.put (k := 21) (s := 106) rfl (by decide) hN (by decide) (fun u_v hu => Option.some.inj (Option.some.inj (show some (some (undef)) = some (some u_v) from hu))) hW.out))
                  | 22, _ =>
                    obtain rfl := Option.some.inj ho
                    have l19 : L 19 = true := dep_of hd (n := 19) (by decide)
                    have e104 : T.getD 104 undef = .bool false := hF.out.val 19 104 _ l19 rfl rfl
                    clear hd ho hi hc hLi
                    exact st_no (by rw [want_some (j := 19) (s := 104) rfl rfl e104]; rfl) (hK.out _ _ (hF.out.put (k := 22) (s := 107) rfl (by decide) hN (by decide) (fun u_v hu => Option.some.inj (Option.some.inj (show some (some (undef)) = some (some u_v) from hu))) hW.out))
                  | 23, _ =>
                    obtain rfl := Option.some.inj ho
                    have l19 : L 19 = true := dep_of hd (n := 19) (by decide)
                    have e104 : T.getD 104 undef = .bool false := hF.out.val 19 104 _ l19 rfl rfl
                    clear hd ho hi hc hLi
                    exact st_no (by rw [want_some (j := 19) (s := 104) rfl rfl e104]; rfl) (hK.out _ _ (hF.out.put (k := 23) (s := 108) rfl (by decide) hN (by decide) (fun u_v hu => Option.some.inj (Option.some.inj (show some (some (undef)) = some (some u_v) from hu))) hW.out))
                  | 24, _ =>
                    obtain rfl := Option.some.inj ho
                    have l19 : L 19 = true := dep_of hd (n := 19) (by decide)
                    have e104 : T.getD 104 undef = .bool false := hF.out.val 19 104 _ l19 rfl rfl
                    clear hd ho hi hc hLi
                    exact st_no (by rw [want_some (j := 19) (s := 104) rfl rfl e104]; rfl) (hK.out _ _ (hF.out.put (k := 24) (s := 109) rfl (by decide) hN (by decide) (fun u_v hu => Option.some.inj (Option.some.inj (show some (some (undef)) = some (some u_v) from hu))) hW.out))
                  | 25, _ =>
                    obtain rfl := Option.some.inj ho
                    have l19 : L 19 = true := dep_of hd (n := 19) (by decide)
                    have e104 : T.getD 104 undef = .bool false := hF.out.val 19 104 _ l19 rfl rfl
                    clear hd ho hi hc hLi
                    exact st_no (by rw [want_some (j := 19) (s := 104) rfl rfl e104]; rfl) (hK.out _ _ (hF.out.put (k := 25) (s := 110) rfl (by decide) hN (by decide) (fun u_v hu => Option.some.inj (Option.some.inj (show some (some (undef)) = some (some u_v) from hu))) hW.out))
                  | 26, _ =>
                    obtain rfl := Option.some.inj ho
                    have l19 : L 19 = true := dep_of hd (n := 19) (by decide)
                    have e104 : T.getD 104 undef = .bool false := hF.out.val 19 104 _ l19 rfl rfl
                    have cc := Lib.hid (cCx.out W hW.out)
                    clear hd ho hi hc hLi
                    exact st_no (by rw [want_some (j := 19) (s := 104) rfl rfl e104]; rfl) (hK.out _ _ (hF.out.put (k := 26) (s := 111) rfl (by decide) hN (by decide) (fun u_v hu => Option.some.inj (Option.some.inj (show some (some (undef)) = some (some u_v) from hu))) hW.out))
                  | 27, _ =>
                    obtain rfl := Option.some.inj ho
                    have l19 : L 19 = true := dep_of hd (n := 19) (by decide)
                    have e104 : T.getD 104 undef = .bool false := hF.out.val 19 104 _ l19 rfl rfl
                    clear hd ho hi hc hLi
                    exact st_no (by rw [want_some (j := 19) (s := 104) rfl rfl e104]; rfl) (hK.out _ _ (hF.out.put (k := 27) (s := 112) rfl (by decide) hN (by decide) (fun u_v hu => Option.some.inj (Option.some.inj (show some (some (undef)) = some (some u_v) from hu))) hW.out))
                  | 28, _ =>
                    obtain rfl := Option.some.inj ho
                    have l19 : L 19 = true := dep_of hd (n := 19) (by decide)
                    have e104 : T.getD 104 undef = .bool false := hF.out.val 19 104 _ l19 rfl rfl
                    clear hd ho hi hc hLi
                    exact st_no (by rw [want_some (j := 19) (s := 104) rfl rfl e104]; rfl) (hK.out _ _ (hF.out.put (k := 28) (s := 113) rfl (by decide) hN (by decide) (fun u_v hu => Option.some.inj (Option.some.inj (show some (some (undef)) = some (some u_v) from hu))) hW.out))
                  | 29, _ =>
                    obtain rfl := Option.some.inj ho
                    have l19 : L 19 = true := dep_of hd (n := 19) (by decide)
                    have e104 : T.getD 104 undef = .bool false := hF.out.val 19 104 _ l19 rfl rfl
                    clear hd ho hi hc hLi
                    exact st_no (by rw [want_some (j := 19) (s := 104) rfl rfl e104]; rfl) (hK.out _ _ (hF.out.put (k := 29) (s := 114) rfl (by decide) hN (by decide) (fun u_v hu => Option.some.inj (Option.some.inj (show some (some (undef)) = some (some u_v) from hu))) hW.out))
                  | 30, _ =>
                    obtain rfl := Option.some.inj ho
                    have l19 : L 19 = true := dep_of hd (n := 19) (by decide)
                    have e104 : T.getD 104 undef = .bool false := hF.out.val 19 104 _ l19 rfl rfl
                    clear hd ho hi hc hLi
                    exact st_no (by rw [want_some (j := 19) (s := 104) rfl rfl e104]; rfl) (hK.out _ _ (hF.out.put (k := 30) (s := 115) rfl (by decide) hN (by decide) (fun u_v hu => Option.some.inj (Option.some.inj (show some (some (undef)) = some (some u_v) from hu))) hW.out))
                  | 31, _ =>
                    obtain rfl := Option.some.inj ho
                    have l19 : L 19 = true := dep_of hd (n := 19) (by decide)
                    have e104 : T.getD 104 undef = .bool false := hF.out.val 19 104 _ l19 rfl rfl
                    clear hd ho hi hc hLi
                    exact st_no (by rw [want_some (j := 19) (s := 104) rfl rfl e104]; rfl) (hK.out _ _ (hF.out.put (k := 31) (s := 116) rfl (by decide) hN (by decide) (fun u_v hu => Option.some.inj (Option.some.inj (show some (some (undef)) = some (some u_v) from hu))) hW.out))
                  | 32, _ =>
                    obtain rfl := Option.some.inj ho
                    have l19 : L 19 = true := dep_of hd (n := 19) (by decide)
                    have e104 : T.getD 104 undef = .bool false := hF.out.val 19 104 _ l19 rfl rfl
                    clear hd ho hi hc hLi
                    exact st_no (by rw [want_some (j := 19) (s := 104) rfl rfl e104]; rfl) (hK.out _ _ (hF.out.put (k := 32) (s := 117) rfl (by decide) hN (by decide) (fun u_v hu => Option.some.inj (Option.some.inj (show some (some (undef)) = some (some u_v) from hu))) hW.out))
                  | 33, _ =>
                    obtain rfl := Option.some.inj ho
                    have l19 : L 19 = true := dep_of hd (n := 19) (by decide)
                    have e104 : T.getD 104 undef = .bool false := hF.out.val 19 104 _ l19 rfl rfl
                    have cc := Lib.hid (cCy.out W hW.out)
                    clear hd ho hi hc hLi
                    exact st_no (by rw [want_some (j := 19) (s := 104) rfl rfl e104]; rfl) (hK.out _ _ (hF.out.put (k := 33) (s := 118) rfl (by decide) hN (by decide) (fun u_v hu => Option.some.inj (Option.some.inj (show some (some (undef)) = some (some u_v) from hu))) hW.out))
                  | 34, _ =>
                    obtain rfl := Option.some.inj ho
                    have l19 : L 19 = true := dep_of hd (n := 19) (by decide)
                    have e104 : T.getD 104 undef = .bool false := hF.out.val 19 104 _ l19 rfl rfl
                    clear hd ho hi hc hLi
                    exact st_no (by rw [want_some (j := 19) (s := 104) rfl rfl e104]; rfl) (hK.out _ _ (hF.out.put (k := 34) (s := 119) rfl (by decide) hN (by decide) (fun u_v hu => Option.some.inj (Option.some.inj (show some (some (undef)) = some (some u_v) from hu))) hW.out))
                  | 35, _ =>
                    obtain rfl := Option.some.inj ho
                    have l19 : L 19 = true := dep_of hd (n := 19) (by decide)
                    have e104 : T.getD 104 undef = .bool false := hF.out.val 19 104 _ l19 rfl rfl
                    have l34 : L 34 = true := dep_of hd (n := 34) (by decide)
                    have e119 : T.getD 119 undef = undef := hF.out.val 34 119 _ l34 rfl rfl
                    have l17 : L 17 = true := dep_of hd (n := 17) (by decide)
                    have e102 : T.getD 102 undef = .bool false := hF.out.val 17 102 _ l17 rfl rfl
                    clear hd ho hi hc hLi
                    exact st_val (v := .bool false) (w' := W) (by rw [want_some (j := 17) (s := 102) rfl rfl e102]; rfl) (by unfold execOp; dsimp only [Act.eval]; simp only [e104, e119]; go_simp) (hK.out _ _ (hF.out.put (k := 35) (s := 120) rfl (by decide) hN (by decide) (fun u_v hu => Option.some.inj (Option.some.inj (show some (some (.bool false)) = some (some u_v) from hu))) hW.out))
                  | 36, _ =>
                    obtain rfl := Option.some.inj ho
                    have l17 : L 17 = true := dep_of hd (n := 17) (by decide)
                    have e102 : T.getD 102 undef = .bool false := hF.out.val 17 102 _ l17 rfl rfl
                    have l35 : L 35 = true := dep_of hd (n := 35) (by decide)
                    have e120 : T.getD 120 undef = .bool false := hF.out.val 35 120 _ l35 rfl rfl
                    clear hd ho hi hc hLi
                    exact st_val (v := .bool false) (w' := W) (want_none rfl) (by unfold execOp; dsimp only [Act.eval]; simp only [e102, e120]; go_simp) (hK.out _ _ (hF.out.put (k := 36) (s := 121) rfl (by decide) hN (by decide) (fun u_v hu => Option.some.inj (Option.some.inj (show some (some (.bool false)) = some (some u_v) from hu))) hW.out))
                case hdone =>
                  intro L T W2 hF hW hall
                  have hB18 := Lib.hid (hbr.out.trans (hW.mono hbr.out.size))
                  clear hW hcx cCx cCy hb hbr
                  have hT : T = #[.slice A n c, .agg (cutC ka kb j), .int .i64 i, undef, .pointer (some ⟨p0, 0, none⟩), undef, u6, .pointer (some ⟨g, 0, none⟩), .pointer (some ⟨q, 0, none⟩), .int .i64 tx, .string tt, .slice A8 (sn + 1) c8, .int .i64 j, .pointer (some ⟨mx, 0, none⟩), .bool false, .pointer (some ⟨my, 0, none⟩), .int .i64 k, .slice A n c, .agg #[.int .i64 ka, .int .i64 kb, .int .i64 j], .bool true, .bool false, undef, .pointer (some ⟨g, 0, none⟩), .pointer (some ⟨g, 0, none⟩), .slice A n c, .agg #[.slice (some ⟨b1, o1, none⟩) n cI, .slice AT n cT], .tuple #[.int .i64 tx, .string tt], .agg #[.slice (some ⟨b1, o1, none⟩) n cI, .slice AT n cT], .int .i64 i, .tuple #[.int .i64 tx, .string tt], .int .i64 tx, .string tt, .pointer (some ⟨p0, 1, none⟩), .int .i64 kb, .int .i64 j, .pointer (some ⟨p0, 2, none⟩), .int .i64 j, .bool false, u38, u39, u40, u41, u42, u43, u44, u45, u46, u47, .pointer (some ⟨g, 0, none⟩), .pointer (some ⟨q, 0, none⟩), .slice (some ⟨b1, o1, none⟩) n cI, .pointer (some ⟨p0, 0, none⟩), .int .i64 ka, .pointer (some ⟨p0, 1, none⟩), .int .i64 kb, .slice (behind3 (some ⟨b1, o1, none⟩) ka cI) (kb - ka) (cI - ka), .slice As sn cs, .pointer (some ⟨mx, 0, none⟩), u58, u59, u60, u61, u62, u63, u64, .slice As sn cs, .int .i64 tx, .slice (some ⟨wc.heap.size, 0, none⟩) 1 1, .slice A8 (sn + 1) c8, .pointer (some ⟨g, 0, none⟩), .pointer (some ⟨q, 0, none⟩), .slice (some ⟨b1, o1, none⟩) n cI, .pointer (some ⟨p0, 0, none⟩), .int .i64 ka, .pointer (some ⟨p0, 1, none⟩), .int .i64 kb, .slice (behind3 (some ⟨b1, o1, none⟩) ka cI) (kb - ka) (cI - ka), .slice A8 (sn + 1) c8, .pointer (some ⟨my, 0, none⟩), .int .i64 k, .slice A n c, .int .i64 n, .bool true, u83, u84, .pointer (some ⟨mx, 0, none⟩), .pointer (some ⟨q, 0, none⟩), .slice (some ⟨b1, o1, none⟩) n cI, .int .i64 k, .pointer (some ⟨b1, o1 + k, none⟩), .int .i64 x, .bool false, .bool false, undef, undef, undef, undef, undef, undef, undef, undef, .bool false, .bool false, .bool false, .bool false, undef, undef, undef, undef, undef, undef, undef, undef, undef, undef, undef, undef, undef, undef, undef, .bool false, .bool false, undef, undef, undef, undef, undef, undef, undef, undef, undef, undef] := (hF.fin [(85, .pointer (some ⟨mx, 0, none⟩)), (86, .pointer (some ⟨q, 0, none⟩)), (87, .slice (some ⟨b1, o1, none⟩) n cI), (88, .int .i64 k), (89, .pointer (some ⟨b1, o1 + k, none⟩)), (90, .int .i64 x), (91, .bool false), (92, .bool false), (93, undef), (94, undef), (95, undef), (96, undef), (97, undef), (98, undef), (99, undef), (100, undef), (101, .bool false), (102, .bool false), (103, .bool false), (104, .bool false), (105, undef), (106, undef), (107, undef), (108, undef), (109, undef), (110, undef), (111, undef), (112, undef), (113, undef), (114, undef), (115, undef), (116, undef), (117, undef), (118, undef), (119, undef), (120, .bool false), (121, .bool false)] [85, 86, 87, 88, 89, 90, 91, 92, 93, 94, 95, 96, 97, 98, 99, 100, 101, 102, 103, 104, 105, 106, 107, 108, 109, 110, 111, 112, 113, 114, 115, 116, 117, 118, 119, 120, 121] rfl (List.forall_mem_cons.2 ⟨hF.val 0 _ _ (hall 0 (show 0 < 37 by decide)) rfl rfl, (List.forall_mem_cons.2 ⟨hF.val 1 _ _ (hall 1 (show 1 < 37 by decide)) rfl rfl, (List.forall_mem_cons.2 ⟨hF.val 2 _ _ (hall 2 (show 2 < 37 by decide)) rfl rfl, (List.forall_mem_cons.2 ⟨hF.val 3 _ _ (hall 3 (show 3 < 37 by decide)) rfl rfl, (List.forall_mem_cons.2 ⟨hF.val 4 _ _ (hall 4 (show 4 < 37 by decide)) rfl rfl, (List.forall_mem_cons.2 ⟨hF.val 5 _ _ (hall 5 (show 5 < 37 by decide)) rfl rfl, (List.forall_mem_cons.2 ⟨hF.val 6 _ _ (hall 6 (show 6 < 37 by decide)) rfl rfl, (List.forall_mem_cons.2 ⟨hF.val 7 _ _ (hall 7 (show 7 < 37 by decide)) rfl rfl, (List.forall_mem_cons.2 ⟨hF.val 8 _ _ (hall 8 (show 8 < 37 by decide)) rfl rfl, (List.forall_mem_cons.2 ⟨hF.val 9 _ _ (hall 9 (show 9 < 37 by decide)) rfl rfl, (List.forall_mem_cons.2 ⟨hF.val 10 _ _ (hall 10 (show 10 < 37 by decide)) rfl rfl, (List.forall_mem_cons.2 ⟨hF.val 11 _ _ (hall 11 (show 11 < 37 by decide)) rfl rfl, (List.forall_mem_cons.2 ⟨hF.val 12 _ _ (hall 12 (show 12 < 37 by decide)) rfl rfl, (List.forall_mem_cons.2 ⟨hF.val 13 _ _ (hall 13 (show 13 < 37 by decide)) rfl rfl, (List.forall_mem_cons.2 ⟨hF.val 14 _ _ (hall 14 (show 14 < 37 by decide)) rfl rfl, (List.forall_mem_cons.2 ⟨hF.val 15 _ _ (hall 15 (show 15 < 37 by decide)) rfl rfl, (List.forall_mem_cons.2 ⟨hF.val 16 _ _ (hall 16 (show 16 < 37 by decide)) rfl rfl, (List.forall_mem_cons.2 ⟨hF.val 17 _ _ (hall 17 (show 17 < 37 by decide)) rfl rfl, (List.forall_mem_cons.2 ⟨hF.val 18 _ _ (hall 18 (show 18 < 37 by decide)) rfl rfl, (List.forall_mem_cons.2 ⟨hF.val 19 _ _ (hall 19 (show 19 < 37 by decide)) rfl rfl, (List.forall_mem_cons.2 ⟨hF.val 20 _ _ (hall 20 (show 20 < 37 by decide)) rfl rfl, (List.forall_mem_cons.2 ⟨hF.val 21 _ _ (hall 21 (show 21 < 37 by decide)) rfl rfl, (List.forall_mem_cons.2 ⟨hF.val 22 _ _ (hall 22 (show 22 < 37 by decide)) rfl rfl, (List.forall_mem_cons.2 ⟨hF.val 23 _ _ (hall 23 (show 23 < 37 by decide)) rfl rfl, (List.forall_mem_cons.2 ⟨hF.val 24 _ _ (hall 24 (show 24 < 37 by decide)) rfl rfl, (List.forall_mem_cons.2 ⟨hF.val 25 _ _ (hall 25 (show 25 < 37 by decide)) rfl rfl, (List.forall_mem_cons.2 ⟨hF.val 26 _ _ (hall 26 (show 26 < 37 by decide)) rfl rfl, (List.forall_mem_cons.2 ⟨hF.val 27 _ _ (hall 27 (show 27 < 37 by decide)) rfl rfl, (List.forall_mem_cons.2 ⟨hF.val 28 _ _ (hall 28 (show 28 < 37 by decide)) rfl rfl, (List.forall_mem_cons.2 ⟨hF.val 29 _ _ (hall 29 (show 29 < 37 by decide)) rfl rfl, (List.forall_mem_cons.2 ⟨hF.val 30 _ _ (hall 30 (show 30 < 37 by decide)) rfl rfl, (List.forall_mem_cons.2 ⟨hF.val 31 _ _ (hall 31 (show 31 < 37 by decide)) rfl rfl, (List.forall_mem_cons.2 ⟨hF.val 32 _ _ (hall 32 (show 32 < 37 by decide)) rfl rfl, (List.forall_mem_cons.2 ⟨hF.val 33 _ _ (hall 33 (show 33 < 37 by decide)) rfl rfl, (List.forall_mem_cons.2 ⟨hF.val 34 _ _ (hall 34 (show 34 < 37 by decide)) rfl rfl, (List.forall_mem_cons.2 ⟨hF.val 35 _ _ (hall 35 (show 35 < 37 by decide)) rfl rfl, (List.forall_mem_cons.2 ⟨hF.val 36 _ _ (hall 36 (show 36 < 37 by decide)) rfl rfl, (fun _ h => absurd h List.not_mem_nil)⟩)⟩)⟩)⟩)⟩)⟩)⟩)⟩)⟩)⟩)⟩)⟩)⟩)⟩)⟩)⟩)⟩)⟩)⟩)⟩)⟩)⟩)⟩)⟩)⟩)⟩)⟩)⟩)⟩)⟩)⟩)⟩)⟩)⟩)⟩)⟩)⟩) (by decide)).trans (by kernel_rfl)
                  clear hF hall
                  subst hT
                  go_wp2_with fail
                  go_roundw
                  case rel => exact ⟨k + 1, by omega, by go_num, hB18⟩
                  case measure => simp [intOf]; omega
              · refine region_iw tbSd18d dsSd18d (vsSd18d q b1 o1 n cI k x mx my) (fun L T W => Below wr.heap.size wr W) rfl (by decide) (by kernel_rfl) ?hlt ?hstep ?hdone ?hstart
                case hstart => exact drewN_below 1
                case hlt =>
                  intro ix o ho
                  have hi := (Array.getElem?_eq_some_iff.1 ho).1
                  match ix, hi with
                  | 0, _ => obtain rfl := Option.some.inj ho; decide
                  | 1, _ => obtain rfl := Option.some.inj ho; decide
                  | 2, _ => obtain rfl := Option.some.inj ho; decide
                  | 3, _ => obtain rfl := Option.some.inj ho; decide
                  | 4, _ => obtain rfl := Option.some.inj ho; decide
                  | 5, _ => obtain rfl := Option.some.inj ho; decide
                  | 6, _ => obtain rfl := Option.some.inj ho; decide
                  | 7, _ => obtain rfl := Option.some.inj ho; decide
                  | 8, _ => obtain rfl := Option.some.inj ho; decide
                  | 9, _ => obtain rfl := Option.some.inj ho; decide
                  | 10, _ => obtain rfl := Option.some.inj ho; decide
                  | 11, _ => obtain rfl := Option.some.inj ho; decide
                  | 12, _ => obtain rfl := Option.some.inj ho; decide
                  | 13, _ => obtain rfl := Option.some.inj ho; decide
                  | 14, _ => obtain rfl := Option.some.inj ho; decide
                  | 15, _ => obtain rfl := Option.some.inj ho; decide
                  | 16, _ => obtain rfl := Option.some.inj ho; decide
                  | 17, _ => obtain rfl := Option.some.inj ho; decide
                  | 18, _ => obtain rfl := Option.some.inj ho; decide
                  | 19, _ => obtain rfl := Option.some.inj ho; decide
                  | 20, _ => obtain rfl := Option.some.inj ho; decide
                  | 21, _ => obtain rfl := Option.some.inj ho; decide
                  | 22, _ => obtain rfl := Option.some.inj ho; decide
                  | 23, _ => obtain rfl := Option.some.inj ho; decide
                  | 24, _ => obtain rfl := Option.some.inj ho; decide
                  | 25, _ => obtain rfl := Option.some.inj ho; decide
                  | 26, _ => obtain rfl := Option.some.inj ho; decide
                  | 27, _ => obtain rfl := Option.some.inj ho; decide
                  | 28, _ => obtain rfl := Option.some.inj ho; decide
                  | 29, _ => obtain rfl := Option.some.inj ho; decide
                  | 30, _ => obtain rfl := Option.some.inj ho; decide
                  | 31, _ => obtain rfl := Option.some.inj ho; decide
                  | 32, _ => obtain rfl := Option.some.inj ho; decide
                  | 33, _ => obtain rfl := Option.some.inj ho; decide
                  | 34, _ => obtain rfl := Option.some.inj ho; decide
                  | 35, _ => obtain rfl := Option.some.inj ho; decide
                  | 36, _ => obtain rfl := Option.some.inj ho; decide
                case hstep =>
                  intro T1 hE L T W ix o hF hW hc ho hLi hd K hK
                  have hN : T1.size = 132 := by rw [hE]; rfl
                  have f8 : T.getD 8 undef = .pointer (some ⟨q, 0, none⟩) := (hF.old 8 (by decide)).trans (by rw [hE]; rfl)
                  have f13 : T.getD 13 undef = .pointer (some ⟨mx, 0, none⟩) := (hF.old 13 (by decide)).trans (by rw [hE]; rfl)
                  have f14 : T.getD 14 undef = .bool false := (hF.old 14 (by decide)).trans (by rw [hE]; rfl)
                  have f15 : T.getD 15 undef = .pointer (some ⟨my, 0, none⟩) := (hF.old 15 (by decide)).trans (by rw [hE]; rfl)
                  have f16 : T.getD 16 undef = .int .i64 k := (hF.old 16 (by decide)).trans (by rw [hE]; rfl)
                  clear hE
                  replace hF := Lib.hid hF
                  replace hW := Lib.hid hW
                  replace hK := Lib.hid hK
                  have hi := (List.getElem?_eq_some_iff.1 ho).1
                  match ix, hi with
                  | 0, _ =>
                    obtain rfl := Option.some.inj ho
                    clear hd ho hi hc hLi
                    exact st_val (v := .pointer (some ⟨mx, 0, none⟩)) (w' := W) (want_none rfl) (by unfold execOp; dsimp only [Act.eval]; simp only [f13]; go_simp) (hK.out _ _ (hF.out.put (k := 0) (s := 85) rfl (by decide) hN (by decide) (fun u_v hu => Option.some.inj (Option.some.inj (show some (some (.pointer (some ⟨mx, 0, none⟩))) = some (some u_v) from hu))) hW.out))
                  | 1, _ =>
                    obtain rfl := Option.some.inj ho
                    clear hd ho hi hc hLi
                    exact st_val (v := .pointer (some ⟨q, 0, none⟩)) (w' := W) (want_none rfl) (by unfold execOp; dsimp only [Act.eval]; simp only [f8]; go_simp) (hK.out _ _ (hF.out.put (k := 1) (s := 86) rfl (by decide) hN (by decide) (fun u_v hu => Option.some.inj (Option.some.inj (show some (some (.pointer (some ⟨q, 0, none⟩))) = some (some u_v) from hu))) hW.out))
                  | 2, _ =>
                    obtain rfl := Option.some.inj ho
                    have l1 : L 1 = true := dep_of hd (n := 1) (by decide)
                    have e86 : T.getD 86 undef = .pointer (some ⟨q, 0, none⟩) := hF.out.val 1 86 _ l1 rfl rfl
                    have hcc := (hcx.out W hW.out).1
                    clear hd ho hi hc hLi
                    exact st_val (v := .slice (some ⟨b1, o1, none⟩) n cI) (w' := W) (want_none rfl) (by unfold execOp; dsimp only [Act.eval]; simp only [e86]; go_simp) (hK.out _ _ (hF.out.put (k := 2) (s := 87) rfl (by decide) hN (by decide) (fun u_v hu => Option.some.inj (Option.some.inj (show some (some (.slice (some ⟨b1, o1, none⟩) n cI)) = some (some u_v) from hu))) hW.out))
                  | 3, _ =>
                    obtain rfl := Option.some.inj ho
                    clear hd ho hi hc hLi
                    exact st_val (v := .int .i64 k) (w' := W) (want_none rfl) (by unfold execOp; dsimp only [Act.eval]; simp only [f16]; go_simp) (hK.out _ _ (hF.out.put (k := 3) (s := 88) rfl (by decide) hN (by decide) (fun u_v hu => Option.some.inj (Option.some.inj (show some (some (.int .i64 k)) = some (some u_v) from hu))) hW.out))
                  | 4, _ =>
                    obtain rfl := Option.some.inj ho
                    have l2 : L 2 = true := dep_of hd (n := 2) (by decide)
                    have e87 : T.getD 87 undef = .slice (some ⟨b1, o1, none⟩) n cI := hF.out.val 2 87 _ l2 rfl rfl
                    have l3 : L 3 = true := dep_of hd (n := 3) (by decide)
                    have e88 : T.getD 88 undef = .int .i64 k := hF.out.val 3 88 _ l3 rfl rfl
                    clear hd ho hi hc hLi
                    exact st_val (v := .pointer (some ⟨b1, o1 + k, none⟩)) (w' := W) (want_none rfl) (by unfold execOp; dsimp only [Act.eval]; simp only [e87, e88]; go_simp) (hK.out _ _ (hF.out.put (k := 4) (s := 89) rfl (by decide) hN (by decide) (fun u_v hu => Option.some.inj (Option.some.inj (show some (some (.pointer (some ⟨b1, o1 + k, none⟩))) = some (some u_v) from hu))) hW.out))
                  | 5, _ =>
                    obtain rfl := Option.some.inj ho
                    have l4 : L 4 = true := dep_of hd (n := 4) (by decide)
                    have e89 : T.getD 89 undef = .pointer (some ⟨b1, o1 + k, none⟩) := hF.out.val 4 89 _ l4 rfl rfl
                    have hcc := (hcx.out W hW.out).2
                    clear hd ho hi hc hLi
                    exact st_val (v := .int .i64 x) (w' := W) (want_none rfl) (by unfold execOp; dsimp only [Act.eval]; simp only [e89]; go_simp) (hK.out _ _ (hF.out.put (k := 5) (s := 90) rfl (by decide) hN (by decide) (fun u_v hu => Option.some.inj (Option.some.inj (show some (some (.int .i64 x)) = some (some u_v) from hu))) hW.out))
                  | 6, _ =>
                    obtain rfl := Option.some.inj ho
                    have l0 : L 0 = true := dep_of hd (n := 0) (by decide)
                    have e85 : T.getD 85 undef = .pointer (some ⟨mx, 0, none⟩) := hF.out.val 0 85 _ l0 rfl rfl
                    have l5 : L 5 = true := dep_of hd (n := 5) (by decide)
                    have e90 : T.getD 90 undef = .int .i64 x := hF.out.val 5 90 _ l5 rfl rfl
                    have cc := Lib.hid (cCx.out W hW.out)
                    clear hd ho hi hc hLi
                    refine st_call (want_none rfl) (by unfold execOp; go_simp) cc.out ?_
                    rintro r wz ⟨rfl, hb4⟩
                    exact ⟨_, rfl, hK.out _ _ (hF.out.put (k := 6) (s := 91) rfl (by decide) hN (by decide) (fun u_v hu => Option.some.inj (Option.some.inj (show some (some (.bool true)) = some (some u_v) from hu))) (hW.out.trans (hb4.mono hW.out.size)))⟩
                  | 7, _ =>
                    obtain rfl := Option.some.inj ho
                    have l6 : L 6 = true := dep_of hd (n := 6) (by decide)
                    have e91 : T.getD 91 undef = .bool true := hF.out.val 6 91 _ l6 rfl rfl
                    clear hd ho hi hc hLi
                    exact st_val (v := .bool true) (w' := W) (want_none rfl) (by unfold execOp; dsimp only [Act.eval]; simp only [e91]; go_simp) (hK.out _ _ (hF.out.put (k := 7) (s := 92) rfl (by decide) hN (by decide) (fun u_v hu => Option.some.inj (Option.some.inj (show some (some (.bool true)) = some (some u_v) from hu))) hW.out))
                  | 8, _ =>
                    obtain rfl := Option.some.inj ho
                    have l7 : L 7 = true := dep_of hd (n := 7) (by decide)
                    have e92 : T.getD 92 undef = .bool true := hF.out.val 7 92 _ l7 rfl rfl
                    clear hd ho hi hc hLi
                    exact st_val (v := .pointer (some ⟨my, 0, none⟩)) (w' := W) (by rw [want_some (j := 7) (s := 92) rfl rfl e92]; rfl) (by unfold execOp; dsimp only [Act.eval]; simp only [f15]; go_simp) (hK.out _ _ (hF.out.put (k := 8) (s := 93) rfl (by decide) hN (by decide) (fun u_v hu => Option.some.inj (Option.some.inj (show some (some (.pointer (some ⟨my, 0, none⟩))) = some (some u_v) from hu))) hW.out))
                  | 9, _ =>
                    obtain rfl := Option.some.inj ho
                    have l7 : L 7 = true := dep_of hd (n := 7) (by decide)
                    have e92 : T.getD 92 undef = .bool true := hF.out.val 7 92 _ l7 rfl rfl
                    clear hd ho hi hc hLi
                    exact st_val (v := .pointer (some ⟨q, 0, none⟩)) (w' := W) (by rw [want_some (j := 7) (s := 92) rfl rfl e92]; rfl) (by unfold execOp; dsimp only [Act.eval]; simp only [f8]; go_simp) (hK.out _ _ (hF.out.put (k := 9) (s := 94) rfl (by decide) hN (by decide) (fun u_v hu => Option.some.inj (Option.some.inj (show some (some (.pointer (some ⟨q, 0, none⟩))) = some (some u_v) from hu))) hW.out))
                  | 10, _ =>
                    obtain rfl := Option.some.inj ho
                    have l9 : L 9 = true := dep_of hd (n := 9) (by decide)
                    have e94 : T.getD 94 undef = .pointer (some ⟨q, 0, none⟩) := hF.out.val 9 94 _ l9 rfl rfl
                    have l7 : L 7 = true := dep_of hd (n := 7) (by decide)
                    have e92 : T.getD 92 undef = .bool true := hF.out.val 7 92 _ l7 rfl rfl
                    have hcc := (hcx.out W hW.out).1
                    clear hd ho hi hc hLi
                    exact st_val (v := .slice (some ⟨b1, o1, none⟩) n cI) (w' := W) (by rw [want_some (j := 7) (s := 92) rfl rfl e92]; rfl) (by unfold execOp; dsimp only [Act.eval]; simp only [e94]; go_simp) (hK.out _ _ (hF.out.put (k := 10) (s := 95) rfl (by decide) hN (by decide) (fun u_v hu => Option.some.inj (Option.some.inj (show some (some (.slice (some ⟨b1, o1, none⟩) n cI)) = some (some u_v) from hu))) hW.out))
                  | 11, _ =>
                    obtain rfl := Option.some.inj ho
                    have l7 : L 7 = true := dep_of hd (n := 7) (by decide)
                    have e92 : T.getD 92 undef = .bool true := hF.out.val 7 92 _ l7 rfl rfl
                    clear hd ho hi hc hLi
                    exact st_val (v := .int .i64 k) (w' := W) (by rw [want_some (j := 7) (s := 92) rfl rfl e92]; rfl) (by unfold execOp; dsimp only [Act.eval]; simp only [f16]; go_simp) (hK.out _ _ (hF.out.put (k := 11) (s := 96) rfl (by decide) hN (by decide) (fun u_v hu => Option.some.inj (Option.some.inj (show some (some (.int .i64 k)) = some (some u_v) from hu))) hW.out))
                  | 12, _ =>
                    obtain rfl := Option.some.inj ho
                    have l10 : L 10 = true := dep_of hd (n := 10) (by decide)
                    have e95 : T.getD 95 undef = .slice (some ⟨b1, o1, none⟩) n cI := hF.out.val 10 95 _ l10 rfl rfl
                    have l11 : L 11 = true := dep_of hd (n := 11) (by decide)
                    have e96 : T.getD 96 undef = .int .i64 k := hF.out.val 11 96 _ l11 rfl rfl
                    have l7 : L 7 = true := dep_of hd (n := 7) (by decide)
                    have e92 : T.getD 92 undef = .bool true := hF.out.val 7 92 _ l7 rfl rfl
                    clear hd ho hi hc hLi
                    exact st_val (v := .pointer (some ⟨b1, o1 + k, none⟩)) (w' := W) (by rw [want_some (j := 7) (s := 92) rfl rfl e92]; rfl) (by unfold execOp; dsimp only [Act.eval]; simp only [e95, e96]; go_simp) (hK.out _ _ (hF.out.put (k := 12) (s := 97) rfl (by decide) hN (by decide) (fun u_v hu => Option.some.inj (Option.some.inj (show some (some (.pointer (some ⟨b1, o1 + k, none⟩))) = some (some u_v) from hu))) hW.out))
                  | 13, _ =>
                    obtain rfl := Option.some.inj ho
                    have l12 : L 12 = true := dep_of hd (n := 12) (by decide)
                    have e97 : T.getD 97 undef = .pointer (some ⟨b1, o1 + k, none⟩) := hF.out.val 12 97 _ l12 rfl rfl
                    have l7 : L 7 = true := dep_of hd (n := 7) (by decide)
                    have e92 : T.getD 92 undef = .bool true := hF.out.val 7 92 _ l7 rfl rfl
                    have hcc := (hcx.out W hW.out).2
                    clear hd ho hi hc hLi
                    exact st_val (v := .int .i64 x) (w' := W) (by rw [want_some (j := 7) (s := 92) rfl rfl e92]; rfl) (by unfold execOp; dsimp only [Act.eval]; simp only [e97]; go_simp) (hK.out _ _ (hF.out.put (k := 13) (s := 98) rfl (by decide) hN (by decide) (fun u_v hu => Option.some.inj (Option.some.inj (show some (some (.int .i64 x)) = some (some u_v) from hu))) hW.out))
                  | 14, _ =>
                    obtain rfl := Option.some.inj ho
                    have l8 : L 8 = true := dep_of hd (n := 8) (by decide)
                    have e93 : T.getD 93 undef = .pointer (some ⟨my, 0, none⟩) := hF.out.val 8 93 _ l8 rfl rfl
                    have l13 : L 13 = true := dep_of hd (n := 13) (by decide)
                    have e98 : T.getD 98 undef = .int .i64 x := hF.out.val 13 98 _ l13 rfl rfl
                    have l7 : L 7 = true := dep_of hd (n := 7) (by decide)
                    have e92 : T.getD 92 undef = .bool true := hF.out.val 7 92 _ l7 rfl rfl
                    have cc := Lib.hid (cCy.out W hW.out)
                    clear hd ho hi hc hLi
                    refine st_call (by rw [want_some (j := 7) (s := 92) rfl rfl e92]; rfl) (by unfold execOp; go_simp) cc.out ?_
                    rintro r wz ⟨rfl, hb4⟩
                    exact ⟨_, rfl, hK.out _ _ (hF.out.put (k := 14) (s := 99) rfl (by decide) hN (by decide) (fun u_v hu => Option.some.inj (Option.some.inj (show some (some (.bool true)) = some (some u_v) from hu))) (hW.out.trans (hb4.mono hW.out.size)))⟩
                  | 15, _ =>
                    obtain rfl := Option.some.inj ho
                    have l14 : L 14 = true := dep_of hd (n := 14) (by decide)
                    have e99 : T.getD 99 undef = .bool true := hF.out.val 14 99 _ l14 rfl rfl
                    have l7 : L 7 = true := dep_of hd (n := 7) (by decide)
                    have e92 : T.getD 92 undef = .bool true := hF.out.val 7 92 _ l7 rfl rfl
                    clear hd ho hi hc hLi
                    exact st_val (v := .bool false) (w' := W) (by rw [want_some (j := 7) (s := 92) rfl rfl e92]; rfl) (by unfold execOp; dsimp only [Act.eval]; simp only [e99]; go_simp) (hK.out _ _ (hF.out.put (k := 15) (s := 100) rfl (by decide) hN (by decide) (fun u_v hu => Option.some.inj (Option.some.inj (show some (some (.bool false)) = some (some u_v) from hu))) hW.out))
                  | 16, _ =>
                    obtain rfl := Option.some.inj ho
                    have l7 : L 7 = true := dep_of hd (n := 7) (by decide)
                    have e92 : T.getD 92 undef = .bool true := hF.out.val 7 92 _ l7 rfl rfl
                    have l15 : L 15 = true := dep_of hd (n := 15) (by decide)
                    have e100 : T.getD 100 undef = .bool false := hF.out.val 15 100 _ l15 rfl rfl
                    clear hd ho hi hc hLi
                    exact st_val (v := .bool false) (w' := W) (want_none rfl) (by unfold execOp; dsimp only [Act.eval]; simp only [e92, e100]; go_simp) (hK.out _ _ (hF.out.put (k := 16) (s := 101) rfl (by decide) hN (by decide) (fun u_v hu => Option.some.inj (Option.some.inj (show some (some (.bool false)) = some (some u_v) from hu))) hW.out))
                  | 17, _ =>
                    obtain rfl := Option.some.inj ho
                    have l16 : L 16 = true := dep_of hd (n := 16) (by decide)
                    have e101 : T.getD 101 undef = .bool false := hF.out.val 16 101 _ l16 rfl rfl
                    clear hd ho hi hc hLi
                    exact st_val (v := .bool false) (w' := W) (want_none rfl) (by unfold execOp; dsimp only [Act.eval]; simp only [e101]; go_simp) (hK.out _ _ (hF.out.put (k := 17) (s := 102) rfl (by decide) hN (by decide) (fun u_v hu => Option.some.inj (Option.some.inj (show some (some (.bool false)) = some (some u_v) from hu))) hW.out))
                  | 18, _ =>
                    obtain rfl := Option.some.inj ho
                    have l17 : L 17 = true := dep_of hd (n := 17) (by decide)
                    have e102 : T.getD 102 undef = .bool false := hF.out.val 17 102 _ l17 rfl rfl
                    clear hd ho hi hc hLi
                    exact st_val (v := .bool false) (w' := W) (by rw [want_some (j := 17) (s := 102) rfl rfl e102]; rfl) (by unfold execOp; dsimp only [Act.eval]; simp only [f14]; go_simp) (hK.out _ _ (hF.out.put (k := 18) (s := 103) rfl (by decide) hN (by decide) (fun u_v hu => Option.some.inj (Option.some.inj (show some (some (.bool false)) = some (some u_v) from hu))) hW.out))
                  | 19, _ =>
                    obtain rfl := Option.some.inj ho
                    have l18 : L 18 = true := dep_of hd (n := 18) (by decide)
                    have e103 : T.getD 103 undef = .bool false := hF.out.val 18 103 _ l18 rfl rfl
                    have l17 : L 17 = true := dep_of hd (n := 17) (by decide)
                    have e102 : T.getD 102 undef = .bool false := hF.out.val 17 102 _ l17 rfl rfl
                    clear hd ho hi hc hLi
                    exact st_val (v := .bool false) (w' := W) (by rw [want_some (j := 17) (s := 102) rfl rfl e102]; rfl) (by unfold execOp; dsimp only [Act.eval]; simp only [e103]; go_simp) (hK.out _ _ (hF.out.put (k := 19) (s := 104) rfl (by decide) hN (by decide) (fun u_v hu => Option.some.inj (Option.some.inj (show some (some (.bool false)) = some (some u_v) from hu))) hW.out))
                  | 20, _ =>
                    obtain rfl := Option.some.inj ho
                    have l19 : L 19 = true := dep_of hd (n := 19) (by decide)
                    have e104 : T.getD 104 undef = .bool false := hF.out.val 19 104 _ l19 rfl rfl
                    clear hd ho hi hc hLi
                    exact st_no (by rw [want_some (j := 19) (s := 104) rfl rfl e104]; rfl) (hK.out _ _ (hF.out.put (k := 20) (s := 105) rfl (by decide) hN (by decide) (fun u_v hu => Option.some.inj (Option.some.inj (show some (some (undef)) = some (some u_v) from hu))) hW.out))
                  | 21, _ =>
                    obtain rfl := Option.some.inj ho
                    have l19 : L 19 = true := dep_of hd (n := 19) (by decide)
                    have e104 : T.getD 104 undef = .bool false := hF.out.val 19 104 _ l19 rfl rfl
                    clear hd ho hi hc hLi
                    exact st_no (by rw [want_some (j := 19) (s := 104) rfl rfl e104]; rfl) (hK.out _ _ (hF.out.put (k := 21) (s := 106) rfl (by decide) hN (by decide) (fun u_v hu => Option.some.inj (Option.some.inj (show some (some (undef)) = some (some u_v) from hu))) hW.out))
                  | 22, _ =>
                    obtain rfl := Option.some.inj ho
                    have l19 : L 19 = true := dep_of hd (n := 19) (by decide)
                    have e104 : T.getD 104 undef = .bool false := hF.out.val 19 104 _ l19 rfl rfl
                    clear hd ho hi hc hLi
                    exact st_no (by rw [want_some (j := 19) (s := 104) rfl rfl e104]; rfl) (hK.out _ _ (hF.out.put (k := 22) (s := 107) rfl (by decide) hN (by decide) (fun u_v hu => Option.some.inj (Option.some.inj (show some (some (undef)) = some (some u_v) from hu))) hW.out))
                  | 23, _ =>
                    obtain rfl := Option.some.inj ho
                    have l19 : L 19 = true := dep_of hd (n := 19) (by decide)
                    have e104 : T.getD 104 undef = .bool false := hF.out.val 19 104 _ l19 rfl rfl
                    clear hd ho hi hc hLi
                    exact st_no (by rw [want_some (j := 19) (s := 104) rfl rfl e104]; rfl) (hK.out _ _ (hF.out.put (k := 23) (s := 108) rfl (by decide) hN (by decide) (fun u_v hu => Option.some.inj (Option.some.inj (show some (some (undef)) = some (some u_v) from hu))) hW.out))
                  | 24, _ =>
                    obtain rfl := Option.some.inj ho
                    have l19 : L 19 = true := dep_of hd (n := 19) (by decide)
                    have e104 : T.getD 104 undef = .bool false := hF.out.val 19 104 _ l19 rfl rfl
                    clear hd ho hi hc hLi
                    exact st_no (by rw [want_some (j := 19) (s := 104) rfl rfl e104]; rfl) (hK.out _ _ (hF.out.put (k := 24) (s := 109) rfl (by decide) hN (by decide) (fun u_v hu => Option.some.inj (Option.some.inj (show some (some (undef)) = some (some u_v) from hu))) hW.out))
                  | 25, _ =>
                    obtain rfl := Option.some.inj ho
                    have l19 : L 19 = true := dep_of hd (n := 19) (by decide)
                    have e104 : T.getD 104 undef = .bool false := hF.out.val 19 104 _ l19 rfl rfl
                    clear hd ho hi hc hLi
                    exact st_no (by rw [want_some (j := 19) (s := 104) rfl rfl e104]; rfl) (hK.out _ _ (hF.out.put (k := 25) (s := 110) rfl (by decide) hN (by decide) (fun u_v hu => Option.some.inj (Option.some.inj (show some (some (undef)) = some (some u_v) from hu))) hW.out))
                  | 26, _ =>
                    obtain rfl := Option.some.inj ho
                    have l19 : L 19 = true := dep_of hd (n := 19) (by decide)
                    have e104 : T.getD 104 undef = .bool false := hF.out.val 19 104 _ l19 rfl rfl
                    have cc := Lib.hid (cCx.out W hW.out)
                    clear hd ho hi hc hLi
                    exact st_no (by rw [want_some (j := 19) (s := 104) rfl rfl e104]; rfl) (hK.out _ _ (hF.out.put (k := 26) (s := 111) rfl (by decide) hN (by decide) (fun u_v hu => Option.some.inj (Option.some.inj (show some (some (undef)) = some (some u_v) from hu))) hW.out))
                  | 27, _ =>
                    obtain rfl := Option.some.inj ho
                    have l19 : L 19 = true := dep_of hd (n := 19) (by decide)
                    have e104 : T.getD 104 undef = .bool false := hF.out.val 19 104 _ l19 rfl rfl
                    clear hd ho hi hc hLi
                    exact st_no (by rw [want_some (j := 19) (s := 104) rfl rfl e104]; rfl) (hK.out _ _ (hF.out.put (k := 27) (s := 112) rfl (by decide) hN (by decide) (fun u_v hu => Option.some.inj (Option.some.inj (show some (some (undef)) = some (some u_v) from hu))) hW.out))
                  | 28, _ =>
                    obtain rfl := Option.some.inj ho
                    have l19 : L 19 = true := dep_of hd (n := 19) (by decide)
                    have e104 : T.getD 104 undef = .bool false := hF.out.val 19 104 _ l19 rfl rfl
                    clear hd ho hi hc hLi
                    exact st_no (by rw [want_some (j := 19) (s := 104) rfl rfl e104]; rfl) (hK.out _ _ (hF.out.put (k := 28) (s := 113) rfl (by decide) hN (by decide) (fun u_v hu => Option.some.inj (Option.some.inj (show some (some (undef)) = some (some u_v) from hu))) hW.out))
                  | 29, _ =>
                    obtain rfl := Option.some.inj ho
                    have l19 : L 19 = true := dep_of hd (n := 19) (by decide)
                    have e104 : T.getD 104 undef = .bool false := hF.out.val 19 104 _ l19 rfl rfl
                    clear hd ho hi hc hLi
                    exact st_no (by rw [want_some (j := 19) (s := 104) rfl rfl e104]; rfl) (hK.out _ _ (hF.out.put (k := 29) (s := 114) rfl (by decide) hN (by decide) (fun u_v hu => Option.some.inj (Option.some.inj (show some (some (undef)) = some (some u_v) from hu))) hW.out))
                  | 30, _ =>
                    obtain rfl := Option.some.inj ho
                    have l19 : L 19 = true := dep_of hd (n := 19) (by decide)
                    have e104 : T.getD 104 undef = .bool false := hF.out.val 19 104 _ l19 rfl rfl
                    clear hd ho hi hc hLi
                    exact st_no (by rw [want_some (j := 19) (s := 104) rfl rfl e104]; rfl) (hK.out _ _ (hF.out.put (k := 30) (s := 115) rfl (by decide) hN (by decide) (fun u_v hu => Option.some.inj (Option.some.inj (show some (some (undef)) = some (some u_v) from hu))) hW.out))
                  | 31, _ =>
                    obtain rfl := Option.some.inj ho
                    have l19 : L 19 = true := dep_of hd (n := 19) (by decide)
                    have e104 : T.getD 104 undef = .bool false := hF.out.val 19 104 _ l19 rfl rfl
                    clear hd ho hi hc hLi
                    exact st_no (by rw [want_some (j := 19) (s := 104) rfl rfl e104]; rfl) (hK.out _ _ (hF.out.put (k := 31) (s := 116) rfl (by decide) hN (by decide) (fun u_v hu => Option.some.inj (Option.some.inj (show some (some (undef)) = some (some u_v) from hu))) hW.out))
                  | 32, _ =>
                    obtain rfl := Option.some.inj ho
                    have l19 : L 19 = true := dep_of hd (n := 19) (by decide)
                    have e104 : T.getD 104 undef = .bool false := hF.out.val 19 104 _ l19 rfl rfl
                    clear hd ho hi hc hLi
                    exact st_no (by rw [want_some (j := 19) (s := 104) rfl rfl e104]; rfl) (hK.out _ _ (hF.out.put (k := 32) (s := 117) rfl (by decide) hN (by decide) (fun u_v hu => Option.some.inj (Option.some.inj (show some (some (undef)) = some (some u_v) from hu))) hW.out))
                  | 33, _ =>
                    obtain rfl := Option.some.inj ho
                    have l19 : L 19 = true := dep_of hd (n := 19) (by decide)
                    have e104 : T.getD 104 undef = .bool false := hF.out.val 19 104 _ l19 rfl rfl
                    have cc := Lib.hid (cCy.out W hW.out)
                    clear hd ho hi hc hLi
                    exact st_no (by rw [want_some (j := 19) (s := 104) rfl rfl e104]; rfl) (hK.out _ _ (hF.out.put (k := 33) (s := 118) rfl (by decide) hN (by decide) (fun u_v hu => Option.some.inj (Option.some.inj (show some (some (undef)) = some (some u_v) from hu))) hW.out))
                  | 34, _ =>
                    obtain rfl := Option.some.inj ho
                    have l19 : L 19 = true := dep_of hd (n := 19) (by decide)
                    have e104 : T.getD 104 undef = .bool false := hF.out.val 19 104 _ l19 rfl rfl
                    clear hd ho hi hc hLi
                    exact st_no (by rw [want_some (j := 19) (s := 104) rfl rfl e104]; rfl) (hK.out _ _ (hF.out.put (k := 34) (s := 119) rfl (by decide) hN (by decide) (fun u_v hu => Option.some.inj (Option.some.inj (show some (some (undef)) = some (some u_v) from hu))) hW.out))
                  | 35, _ =>
                    obtain rfl := Option.some.inj ho
                    have l19 : L 19 = true := dep_of hd (n := 19) (by decide)
                    have e104 : T.getD 104 undef = .bool false := hF.out.val 19 104 _ l19 rfl rfl
                    have l34 : L 34 = true := dep_of hd (n := 34) (by decide)
                    have e119 : T.getD 119 undef = undef := hF.out.val 34 119 _ l34 rfl rfl
                    have l17 : L 17 = true := dep_of hd (n := 17) (by decide)
                    have e102 : T.getD 102 undef = .bool false := hF.out.val 17 102 _ l17 rfl rfl
                    clear hd ho hi hc hLi
                    exact st_val (v := .bool false) (w' := W) (by rw [want_some (j := 17) (s := 102) rfl rfl e102]; rfl) (by unfold execOp; dsimp only [Act.eval]; simp only [e104, e119]; go_simp) (hK.out _ _ (hF.out.put (k := 35) (s := 120) rfl (by decide) hN (by decide) (fun u_v hu => Option.some.inj (Option.some.inj (show some (some (.bool false)) = some (some u_v) from hu))) hW.out))
                  | 36, _ =>
                    obtain rfl := Option.some.inj ho
                    have l17 : L 17 = true := dep_of hd (n := 17) (by decide)
                    have e102 : T.getD 102 undef = .bool false := hF.out.val 17 102 _ l17 rfl rfl
                    have l35 : L 35 = true := dep_of hd (n := 35) (by decide)
                    have e120 : T.getD 120 undef = .bool false := hF.out.val 35 120 _ l35 rfl rfl
                    clear hd ho hi hc hLi
                    exact st_val (v := .bool false) (w' := W) (want_none rfl) (by unfold execOp; dsimp only [Act.eval]; simp only [e102, e120]; go_simp) (hK.out _ _ (hF.out.put (k := 36) (s := 121) rfl (by decide) hN (by decide) (fun u_v hu => Option.some.inj (Option.some.inj (show some (some (.bool false)) = some (some u_v) from hu))) hW.out))
                case hdone =>
                  intro L T W2 hF hW hall
                  have hB18 := Lib.hid (hbr.out.trans (hW.mono hbr.out.size))
                  clear hW hcx cCx cCy hb hbr
                  have hT : T = #[.slice A n c, .agg (cutC ka kb j), .int .i64 i, undef, .pointer (some ⟨p0, 0, none⟩), undef, u6, .pointer (some ⟨g, 0, none⟩), .pointer (some ⟨q, 0, none⟩), .int .i64 tx, .string tt, .slice A8 (sn + 1) c8, .int .i64 j, .pointer (some ⟨mx, 0, none⟩), .bool false, .pointer (some ⟨my, 0, none⟩), .int .i64 k, .slice A n c, .agg #[.int .i64 ka, .int .i64 kb, .int .i64 j], .bool true, .bool false, undef, .pointer (some ⟨g, 0, none⟩), .pointer (some ⟨g, 0, none⟩), .slice A n c, .agg #[.slice (some ⟨b1, o1, none⟩) n cI, .slice AT n cT], .tuple #[.int .i64 tx, .string tt], .agg #[.slice (some ⟨b1, o1, none⟩) n cI, .slice AT n cT], .int .i64 i, .tuple #[.int .i64 tx, .string tt], .int .i64 tx, .string tt, .pointer (some ⟨p0, 1, none⟩), .int .i64 kb, .int .i64 j, .pointer (some ⟨p0, 2, none⟩), .int .i64 j, .bool false, u38, u39, u40, u41, u42, u43, u44, u45, u46, u47, .pointer (some ⟨g, 0, none⟩), .pointer (some ⟨q, 0, none⟩), .slice (some ⟨b1, o1, none⟩) n cI, .pointer (some ⟨p0, 0, none⟩), .int .i64 ka, .pointer (some ⟨p0, 1, none⟩), .int .i64 kb, .slice (behind3 (some ⟨b1, o1, none⟩) ka cI) (kb - ka) (cI - ka), .slice As sn cs, .pointer (some ⟨mx, 0, none⟩), u58, u59, u60, u61, u62, u63, u64, .slice As sn cs, .int .i64 tx, .slice (some ⟨wc.heap.size, 0, none⟩) 1 1, .slice A8 (sn + 1) c8, .pointer (some ⟨g, 0, none⟩), .pointer (some ⟨q, 0, none⟩), .slice (some ⟨b1, o1, none⟩) n cI, .pointer (some ⟨p0, 0, none⟩), .int .i64 ka, .pointer (some ⟨p0, 1, none⟩), .int .i64 kb, .slice (behind3 (some ⟨b1, o1, none⟩) ka cI) (kb - ka) (cI - ka), .slice A8 (sn + 1) c8, .pointer (some ⟨my, 0, none⟩), .int .i64 k, .slice A n c, .int .i64 n, .bool true, u83, u84, .pointer (some ⟨mx, 0, none⟩), .pointer (some ⟨q, 0, none⟩), .slice (some ⟨b1, o1, none⟩) n cI, .int .i64 k, .pointer (some ⟨b1, o1 + k, none⟩), .int .i64 x, .bool true, .bool true, .pointer (some ⟨my, 0, none⟩), .pointer (some ⟨q, 0, none⟩), .slice (some ⟨b1, o1, none⟩) n cI, .int .i64 k, .pointer (some ⟨b1, o1 + k, none⟩), .int .i64 x, .bool true, .bool false, .bool false, .bool false, .bool false, .bool false, undef, undef, undef, undef, undef, undef, undef, undef, undef, undef, undef, undef, undef, undef, undef, .bool false, .bool false, undef, undef, undef, undef, undef, undef, undef, undef, undef, undef] := (hF.fin [(85, .pointer (some ⟨mx, 0, none⟩)), (86, .pointer (some ⟨q, 0, none⟩)), (87, .slice (some ⟨b1, o1, none⟩) n cI), (88, .int .i64 k), (89, .pointer (some ⟨b1, o1 + k, none⟩)), (90, .int .i64 x), (91, .bool true), (92, .bool true), (93, .pointer (some ⟨my, 0, none⟩)), (94, .pointer (some ⟨q, 0, none⟩)), (95, .slice (some ⟨b1, o1, none⟩) n cI), (96, .int .i64 k), (97, .pointer (some ⟨b1, o1 + k, none⟩)), (98, .int .i64 x), (99, .bool true), (100, .bool false), (101, .bool false), (102, .bool false), (103, .bool false), (104, .bool false), (105, undef), (106, undef), (107, undef), (108, undef), (109, undef), (110, undef), (111, undef), (112, undef), (113, undef), (114, undef), (115, undef), (116, undef), (117, undef), (118, undef), (119, undef), (120, .bool false), (121, .bool false)] [85, 86, 87, 88, 89, 90, 91, 92, 93, 94, 95, 96, 97, 98, 99, 100, 101, 102, 103, 104, 105, 106, 107, 108, 109, 110, 111, 112, 113, 114, 115, 116, 117, 118, 119, 120, 121] rfl (List.forall_mem_cons.2 ⟨hF.val 0 _ _ (hall 0 (show 0 < 37 by decide)) rfl rfl, (List.forall_mem_cons.2 ⟨hF.val 1 _ _ (hall 1 (show 1 < 37 by decide)) rfl rfl, (List.forall_mem_cons.2 ⟨hF.val 2 _ _ (hall 2 (show 2 < 37 by decide)) rfl rfl, (List.forall_mem_cons.2 ⟨hF.val 3 _ _ (hall 3 (show 3 < 37 by decide)) rfl rfl, (List.forall_mem_cons.2 ⟨hF.val 4 _ _ (hall 4 (show 4 < 37 by decide)) rfl rfl, (List.forall_mem_cons.2 ⟨hF.val 5 _ _ (hall 5 (show 5 < 37 by decide)) rfl rfl, (List.forall_mem_cons.2 ⟨hF.val 6 _ _ (hall 6 (show 6 < 37 by decide)) rfl rfl, (List.forall_mem_cons.2 ⟨hF.val 7 _ _ (hall 7 (show 7 < 37 by decide)) rfl rfl, (List.forall_mem_cons.2 ⟨hF.val 8 _ _ (hall 8 (show 8 < 37 by decide)) rfl rfl, (List.forall_mem_cons.2 ⟨hF.val 9 _ _ (hall 9 (show 9 < 37 by decide)) rfl rfl, (List.forall_mem_cons.2 ⟨hF.val 10 _ _ (hall 10 (show 10 < 37 by decide)) rfl rfl, (List.forall_mem_cons.2 ⟨hF.val 11 _ _ (hall 11 (show 11 < 37 by decide)) rfl rfl, (List.forall_mem_cons.2 ⟨hF.val 12 _ _ (hall 12 (show 12 < 37 by decide)) rfl rfl, (List.forall_mem_cons.2 ⟨hF.val 13 _ _ (hall 13 (show 13 < 37 by decide)) rfl rfl, (List.forall_mem_cons.2 ⟨hF.val 14 _ _ (hall 14 (show 14 < 37 by decide)) rfl rfl, (List.forall_mem_cons.2 ⟨hF.val 15 _ _ (hall 15 (show 15 < 37 by decide)) rfl rfl, (List.forall_mem_cons.2 ⟨hF.val 16 _ _ (hall 16 (show 16 < 37 by decide)) rfl rfl, (List.forall_mem_cons.2 ⟨hF.val 17 _ _ (hall 17 (show 17 < 37 by decide)) rfl rfl, (List.forall_mem_cons.2 ⟨hF.val 18 _ _ (hall 18 (show 18 < 37 by decide)) rfl rfl, (List.forall_mem_cons.2 ⟨hF.val 19 _ _ (hall 19 (show 19 < 37 by decide)) rfl rfl, (List.forall_mem_cons.2 ⟨hF.val 20 _ _ (hall 20 (show 20 < 37 by decide)) rfl rfl, (List.forall_mem_cons.2 ⟨hF.val 21 _ _ (hall 21 (show 21 < 37 by decide)) rfl rfl, (List.forall_mem_cons.2 ⟨hF.val 22 _ _ (hall 22 (show 22 < 37 by decide)) rfl rfl, (List.forall_mem_cons.2 ⟨hF.val 23 _ _ (hall 23 (show 23 < 37 by decide)) rfl rfl, (List.forall_mem_cons.2 ⟨hF.val 24 _ _ (hall 24 (show 24 < 37 by decide)) rfl rfl, (List.forall_mem_cons.2 ⟨hF.val 25 _ _ (hall 25 (show 25 < 37 by decide)) rfl rfl, (List.forall_mem_cons.2 ⟨hF.val 26 _ _ (hall 26 (show 26 < 37 by decide)) rfl rfl, (List.forall_mem_cons.2 ⟨hF.val 27 _ _ (hall 27 (show 27 < 37 by decide)) rfl rfl, (List.forall_mem_cons.2 ⟨hF.val 28 _ _ (hall 28 (show 28 < 37 by decide)) rfl rfl, (List.forall_mem_cons.2 ⟨hF.val 29 _ _ (hall 29 (show 29 < 37 by decide)) rfl rfl, (List.forall_mem_cons.2 ⟨hF.val 30 _ _ (hall 30 (show 30 < 37 by decide)) rfl rfl, (List.forall_mem_cons.2 ⟨hF.val 31 _ _ (hall 31 (show 31 < 37 by decide)) rfl rfl, (List.forall_mem_cons.2 ⟨hF.val 32 _ _ (hall 32 (show 32 < 37 by decide)) rfl rfl, (List.forall_mem_cons.2 ⟨hF.val 33 _ _ (hall 33 (show 33 < 37 by decide)) rfl rfl, (List.forall_mem_cons.2 ⟨hF.val 34 _ _ (hall 34 (show 34 < 37 by decide)) rfl rfl, (List.forall_mem_cons.2 ⟨hF.val 35 _ _ (hall 35 (show 35 < 37 by decide)) rfl rfl, (List.forall_mem_cons.2 ⟨hF.val 36 _ _ (hall 36 (show 36 < 37 by decide)) rfl rfl, (fun _ h => absurd h List.not_mem_nil)⟩)⟩)⟩)⟩)⟩)⟩)⟩)⟩)⟩)⟩)⟩)⟩)⟩)⟩)⟩)⟩)⟩)⟩)⟩)⟩)⟩)⟩)⟩)⟩)⟩)⟩)⟩)⟩)⟩)⟩)⟩)⟩)⟩)⟩)⟩)⟩)⟩) (by decide)).trans (by kernel_rfl)
                  clear hF hall
                  subst hT
                  go_wp2_with fail
                  go_roundw
                  case rel => exact ⟨k + 1, by omega, by go_num, hB18⟩
                  case measure => simp [intOf]; omega
              · refine region_iw tbSd18e dsSd18e (vsSd18e q b1 o1 n cI k x mx my) (fun L T W => Below wr.heap.size wr W) rfl (by decide) (by kernel_rfl) ?hlt ?hstep ?hdone ?hstart
                case hstart => exact drewN_below 1
                case hlt =>
                  intro ix o ho
                  have hi := (Array.getElem?_eq_some_iff.1 ho).1
                  match ix, hi with
                  | 0, _ => obtain rfl := Option.some.inj ho; decide
                  | 1, _ => obtain rfl := Option.some.inj ho; decide
                  | 2, _ => obtain rfl := Option.some.inj ho; decide
                  | 3, _ => obtain rfl := Option.some.inj ho; decide
                  | 4, _ => obtain rfl := Option.some.inj ho; decide
                  | 5, _ => obtain rfl := Option.some.inj ho; decide
                  | 6, _ => obtain rfl := Option.some.inj ho; decide
                  | 7, _ => obtain rfl := Option.some.inj ho; decide
                  | 8, _ => obtain rfl := Option.some.inj ho; decide
                  | 9, _ => obtain rfl := Option.some.inj ho; decide
                  | 10, _ => obtain rfl := Option.some.inj ho; decide
                  | 11, _ => obtain rfl := Option.some.inj ho; decide
                  | 12, _ => obtain rfl := Option.some.inj ho; decide
                  | 13, _ => obtain rfl := Option.some.inj ho; decide
                  | 14, _ => obtain rfl := Option.some.inj ho; decide
                  | 15, _ => obtain rfl := Option.some.inj ho; decide
                  | 16, _ => obtain rfl := Option.some.inj ho; decide
                  | 17, _ => obtain rfl := Option.some.inj ho; decide
                  | 18, _ => obtain rfl := Option.some.inj ho; decide
                  | 19, _ => obtain rfl := Option.some.inj ho; decide
                  | 20, _ => obtain rfl := Option.some.inj ho; decide
                  | 21, _ => obtain rfl := Option.some.inj ho; decide
                  | 22, _ => obtain rfl := Option.some.inj ho; decide
                  | 23, _ => obtain rfl := Option.some.inj ho; decide
                  | 24, _ => obtain rfl := Option.some.inj ho; decide
                  | 25, _ => obtain rfl := Option.some.inj ho; decide
                  | 26, _ => obtain rfl := Option.some.inj ho; decide
                  | 27, _ => obtain rfl := Option.some.inj ho; decide
                  | 28, _ => obtain rfl := Option.some.inj ho; decide
                  | 29, _ => obtain rfl := Option.some.inj ho; decide
                  | 30, _ => obtain rfl := Option.some.inj ho; decide
                  | 31, _ => obtain rfl := Option.some.inj ho; decide
                  | 32, _ => obtain rfl := Option.some.inj ho; decide
                  | 33, _ => obtain rfl := Option.some.inj ho; decide
                  | 34, _ => obtain rfl := Option.some.inj ho; decide
                  | 35, _ => obtain rfl := Option.some.inj ho; decide
                  | 36, _ => obtain rfl := Option.some.inj ho; decide
                case hstep =>
                  intro T1 hE L T W ix o hF hW hc ho hLi hd K hK
                  have hN : T1.size = 132 := by rw [hE]; rfl
                  have f8 : T.getD 8 undef = .pointer (some ⟨q, 0, none⟩) := (hF.old 8 (by decide)).trans (by rw [hE]; rfl)
                  have f13 : T.getD 13 undef = .pointer (some ⟨mx, 0, none⟩) := (hF.old 13 (by decide)).trans (by rw [hE]; rfl)
                  have f14 : T.getD 14 undef = .bool true := (hF.old 14 (by decide)).trans (by rw [hE]; rfl)
                  have f15 : T.getD 15 undef = .pointer (some ⟨my, 0, none⟩) := (hF.old 15 (by decide)).trans (by rw [hE]; rfl)
                  have f16 : T.getD 16 undef = .int .i64 k := (hF.old 16 (by decide)).trans (by rw [hE]; rfl)
                  clear hE
                  replace hF := Lib.hid hF
                  replace hW := Lib.hid hW
                  replace hK := Lib.hid hK
                  have hi := (List.getElem?_eq_some_iff.1 ho).1
                  match ix, hi with
                  | 0, _ =>
                    obtain rfl := Option.some.inj ho
                    clear hd ho hi hc hLi
                    exact st_val (v := .pointer (some ⟨mx, 0, none⟩)) (w' := W) (want_none rfl) (by unfold execOp; dsimp only [Act.eval]; simp only [f13]; go_simp) (hK.out _ _ (hF.out.put (k := 0) (s := 85) rfl (by decide) hN (by decide) (fun u_v hu => Option.some.inj (Option.some.inj (show some (some (.pointer (some ⟨mx, 0, none⟩))) = some (some u_v) from hu))) hW.out))
                  | 1, _ =>
                    obtain rfl := Option.some.inj ho
                    clear hd ho hi hc hLi
                    exact st_val (v := .pointer (some ⟨q, 0, none⟩)) (w' := W) (want_none rfl) (by unfold execOp; dsimp only [Act.eval]; simp only [f8]; go_simp) (hK.out _ _ (hF.out.put (k := 1) (s := 86) rfl (by decide) hN (by decide) (fun u_v hu => Option.some.inj (Option.some.inj (show some (some (.pointer (some ⟨q, 0, none⟩))) = some (some u_v) from hu))) hW.out))
                  | 2, _ =>
                    obtain rfl := Option.some.inj ho
                    have l1 : L 1 = true := dep_of hd (n := 1) (by decide)
                    have e86 : T.getD 86 undef = .pointer (some ⟨q, 0, none⟩) := hF.out.val 1 86 _ l1 rfl rfl
                    have hcc := (hcx.out W hW.out).1
                    clear hd ho hi hc hLi
                    exact st_val (v := .slice (some ⟨b1, o1, none⟩) n cI) (w' := W) (want_none rfl) (by unfold execOp; dsimp only [Act.eval]; simp only [e86]; go_simp) (hK.out _ _ (hF.out.put (k := 2) (s := 87) rfl (by decide) hN (by decide) (fun u_v hu => Option.some.inj (Option.some.inj (show some (some (.slice (some ⟨b1, o1, none⟩) n cI)) = some (some u_v) from hu))) hW.out))
                  | 3, _ =>
                    obtain rfl := Option.some.inj ho
                    clear hd ho hi hc hLi
                    exact st_val (v := .int .i64 k) (w' := W) (want_none rfl) (by unfold execOp; dsimp only [Act.eval]; simp only [f16]; go_simp) (hK.out _ _ (hF.out.put (k := 3) (s := 88) rfl (by decide) hN (by decide) (fun u_v hu => Option.some.inj (Option.some.inj (show some (some (.int .i64 k)) = some (some u_v) from hu))) hW.out))
                  | 4, _ =>
                    obtain rfl := Option.some.inj ho
                    have l2 : L 2 = true := dep_of hd (n := 2) (by decide)
                    have e87 : T.getD 87 undef = .slice (some ⟨b1, o1, none⟩) n cI := hF.out.val 2 87 _ l2 rfl rfl
                    have l3 : L 3 = true := dep_of hd (n := 3) (by decide)
                    have e88 : T.getD 88 undef = .int .i64 k := hF.out.val 3 88 _ l3 rfl rfl
                    clear hd ho hi hc hLi
                    exact st_val (v := .pointer (some ⟨b1, o1 + k, none⟩)) (w' := W) (want_none rfl) (by unfold execOp; dsimp only [Act.eval]; simp only [e87, e88]; go_simp) (hK.out _ _ (hF.out.put (k := 4) (s := 89) rfl (by decide) hN (by decide) (fun u_v hu => Option.some.inj (Option.some.inj (show some (some (.pointer (some ⟨b1, o1 + k, none⟩))) = some (some u_v) from hu))) hW.out))
                  | 5, _ =>
                    obtain rfl := Option.some.inj ho
                    have l4 : L 4 = true := dep_of hd (n := 4) (by decide)
                    have e89 : T.getD 89 undef = .pointer (some ⟨b1, o1 + k, none⟩) := hF.out.val 4 89 _ l4 rfl rfl
                    have hcc := (hcx.out W hW.out).2
                    clear hd ho hi hc hLi
                    exact st_val (v := .int .i64 x) (w' := W) (want_none rfl) (by unfold execOp; dsimp only [Act.eval]; simp only [e89]; go_simp) (hK.out _ _ (hF.out.put (k := 5) (s := 90) rfl (by decide) hN (by decide) (fun u_v hu => Option.some.inj (Option.some.inj (show some (some (.int .i64 x)) = some (some u_v) from hu))) hW.out))
                  | 6, _ =>
                    obtain rfl := Option.some.inj ho
                    have l0 : L 0 = true := dep_of hd (n := 0) (by decide)
                    have e85 : T.getD 85 undef = .pointer (some ⟨mx, 0, none⟩) := hF.out.val 0 85 _ l0 rfl rfl
                    have l5 : L 5 = true := dep_of hd (n := 5) (by decide)
                    have e90 : T.getD 90 undef = .int .i64 x := hF.out.val 5 90 _ l5 rfl rfl
                    have cc := Lib.hid (cCx.out W hW.out)
                    clear hd ho hi hc hLi
                    refine st_call (want_none rfl) (by unfold execOp; go_simp) cc.out ?_
                    rintro r wz ⟨rfl, hb4⟩
                    exact ⟨_, rfl, hK.out _ _ (hF.out.put (k := 6) (s := 91) rfl (by decide) hN (by decide) (fun u_v hu => Option.some.inj (Option.some.inj (show some (some (.bool true)) = some (some u_v) from hu))) (hW.out.trans (hb4.mono hW.out.size)))⟩
                  | 7, _ =>
                    obtain rfl := Option.some.inj ho
                    have l6 : L 6 = true := dep_of hd (n := 6) (by decide)
                    have e91 : T.getD 91 undef = .bool true := hF.out.val 6 91 _ l6 rfl rfl
                    clear hd ho hi hc hLi
                    exact st_val (v := .bool true) (w' := W) (want_none rfl) (by unfold execOp; dsimp only [Act.eval]; simp only [e91]; go_simp) (hK.out _ _ (hF.out.put (k := 7) (s := 92) rfl (by decide) hN (by decide) (fun u_v hu => Option.some.inj (Option.some.inj (show some (some (.bool true)) = some (some u_v) from hu))) hW.out))
                  | 8, _ =>
                    obtain rfl := Option.some.inj ho
                    have l7 : L 7 = true := dep_of hd (n := 7) (by decide)
                    have e92 : T.getD 92 undef = .bool true := hF.out.val 7 92 _ l7 rfl rfl
                    clear hd ho hi hc hLi
                    exact st_val (v := .pointer (some ⟨my, 0, none⟩)) (w' := W) (by rw [want_some (j := 7) (s := 92) rfl rfl e92]; rfl) (by unfold execOp; dsimp only [Act.eval]; simp only [f15]; go_simp) (hK.out _ _ (hF.out.put (k := 8) (s := 93) rfl (by decide) hN (by decide) (fun u_v hu => Option.some.inj (Option.some.inj (show some (some (.pointer (some ⟨my, 0, none⟩))) = some (some u_v) from hu))) hW.out))
                  | 9, _ =>
                    obtain rfl := Option.some.inj ho
                    have l7 : L 7 = true := dep_of hd (n := 7) (by decide)
                    have e92 : T.getD 92 undef = .bool true := hF.out.val 7 92 _ l7 rfl rfl
                    clear hd ho hi hc hLi
                    exact st_val (v := .pointer (some ⟨q, 0, none⟩)) (w' := W) (by rw [want_some (j := 7) (s := 92) rfl rfl e92]; rfl) (by unfold execOp; dsimp only [Act.eval]; simp only [f8]; go_simp) (hK.out _ _ (hF.out.put (k := 9) (s := 94) rfl (by decide) hN (by decide) (fun u_v hu => Option.some.inj (Option.some.inj (show some (some (.pointer (some ⟨q, 0, none⟩))) = some (some u_v) from hu))) hW.out))
                  | 10, _ =>
                    obtain rfl := Option.some.inj ho
                    have l9 : L 9 = true := dep_of hd (n := 9) (by decide)
                    have e94 : T.getD 94 undef = .pointer (some ⟨q, 0, none⟩) := hF.out.val 9 94 _ l9 rfl rfl
                    have l7 : L 7 = true := dep_of hd (n := 7) (by decide)
                    have e92 : T.getD 92 undef = .bool true := hF.out.val 7 92 _ l7 rfl rfl
                    have hcc := (hcx.out W hW.out).1
                    clear hd ho hi hc hLi
                    exact st_val (v := .slice (some ⟨b1, o1, none⟩) n cI) (w' := W) (by rw [want_some (j := 7) (s := 92) rfl rfl e92]; rfl) (by unfold execOp; dsimp only [Act.eval]; simp only [e94]; go_simp) (hK.out _ _ (hF.out.put (k := 10) (s := 95) rfl (by decide) hN (by decide) (fun u_v hu => Option.some.inj (Option.some.inj (show some (some (.slice (some ⟨b1, o1, none⟩) n cI)) = some (some u_v) from hu))) hW.out))
                  | 11, _ =>
                    obtain rfl := Option.some.inj ho
                    have l7 : L 7 = true := dep_of hd (n := 7) (by decide)
                    have e92 : T.getD 92 undef = .bool true := hF.out.val 7 92 _ l7 rfl rfl
                    clear hd ho hi hc hLi
                    exact st_val (v := .int .i64 k) (w' := W) (by rw [want_some (j := 7) (s := 92) rfl rfl e92]; rfl) (by unfold execOp; dsimp only [Act.eval]; simp only [f16]; go_simp) (hK.out _ _ (hF.out.put (k := 11) (s := 96) rfl (by decide) hN (by decide) (fun u_v hu => Option.some.inj (Option.some.inj (show some (some (.int .i64 k)) = some (some u_v) from hu))) hW.out))
                  | 12, _ =>
                    obtain rfl := Option.some.inj ho
                    have l10 : L 10 = true := dep_of hd (n := 10) (by decide)
                    have e95 : T.getD 95 undef = .slice (some ⟨b1, o1, none⟩) n cI := hF.out.val 10 95 _ l10 rfl rfl
                    have l11 : L 11 = true := dep_of hd (n := 11) (by decide)
                    have e96 : T.getD 96 undef = .int .i64 k := hF.out.val 11 96 _ l11 rfl rfl
                    have l7 : L 7 = true := dep_of hd (n := 7) (by decide)
                    have e92 : T.getD 92 undef = .bool true := hF.out.val 7 92 _ l7 rfl rfl
                    clear hd ho hi hc hLi
                    exact st_val (v := .pointer (some ⟨b1, o1 + k, none⟩)) (w' := W) (by rw [want_some (j := 7) (s := 92) rfl rfl e92]; rfl) (by unfold execOp; dsimp only [Act.eval]; simp only [e95, e96]; go_simp) (hK.out _ _ (hF.out.put (k := 12) (s := 97) rfl (by decide) hN (by decide) (fun u_v hu => Option.some.inj (Option.some.inj (show some (some (.pointer (some ⟨b1, o1 + k, none⟩))) = some (some u_v) from hu))) hW.out))
                  | 13, _ =>
                    obtain rfl := Option.some.inj ho
                    have l12 : L 12 = true := dep_of hd (n := 12) (by decide)
                    have e97 : T.getD 97 undef = .pointer (some ⟨b1, o1 + k, none⟩) := hF.out.val 12 97 _ l12 rfl rfl
                    have l7 : L 7 = true := dep_of hd (n := 7) (by decide)
                    have e92 : T.getD 92 undef = .bool true := hF.out.val 7 92 _ l7 rfl rfl
                    have hcc := (hcx.out W hW.out).2
                    clear hd ho hi hc hLi
                    exact st_val (v := .int .i64 x) (w' := W) (by rw [want_some (j := 7) (s := 92) rfl rfl e92]; rfl) (by unfold execOp; dsimp only [Act.eval]; simp only [e97]; go_simp) (hK.out _ _ (hF.out.put (k := 13) (s := 98) rfl (by decide) hN (by decide) (fun u_v hu => Option.some.inj (Option.some.inj (show some (some (.int .i64 x)) = some (some u_v) from hu))) hW.out))
                  | 14, _ =>
                    obtain rfl := Option.some.inj ho
                    have l8 : L 8 = true := dep_of hd (n := 8) (by decide)
                    have e93 : T.getD 93 undef = .pointer (some ⟨my, 0, none⟩) := hF.out.val 8 93 _ l8 rfl rfl
                    have l13 : L 13 = true := dep_of hd (n := 13) (by decide)
                    have e98 : T.getD 98 undef = .int .i64 x := hF.out.val 13 98 _ l13 rfl rfl
                    have l7 : L 7 = true := dep_of hd (n := 7) (by decide)
                    have e92 : T.getD 92 undef = .bool true := hF.out.val 7 92 _ l7 rfl rfl
                    have cc := Lib.hid (cCy.out W hW.out)
                    clear hd ho hi hc hLi
                    refine st_call (by rw [want_some (j := 7) (s := 92) rfl rfl e92]; rfl) (by unfold execOp; go_simp) cc.out ?_
                    rintro r wz ⟨rfl, hb4⟩
                    exact ⟨_, rfl, hK.out _ _ (hF.out.put (k := 14) (s := 99) rfl (by decide) hN (by decide) (fun u_v hu => Option.some.inj (Option.some.inj (show some (some (.bool true)) = some (some u_v) from hu))) (hW.out.trans (hb4.mono hW.out.size)))⟩
                  | 15, _ =>
                    obtain rfl := Option.some.inj ho
                    have l14 : L 14 = true := dep_of hd (n := 14) (by decide)
                    have e99 : T.getD 99 undef = .bool true := hF.out.val 14 99 _ l14 rfl rfl
                    have l7 : L 7 = true := dep_of hd (n := 7) (by decide)
                    have e92 : T.getD 92 undef = .bool true := hF.out.val 7 92 _ l7 rfl rfl
                    clear hd ho hi hc hLi
                    exact st_val (v := .bool false) (w' := W) (by rw [want_some (j := 7) (s := 92) rfl rfl e92]; rfl) (by unfold execOp; dsimp only [Act.eval]; simp only [e99]; go_simp) (hK.out _ _ (hF.out.put (k := 15) (s := 100) rfl (by decide) hN (by decide) (fun u_v hu => Option.some.inj (Option.some.inj (show some (some (.bool false)) = some (some u_v) from hu))) hW.out))
                  | 16, _ =>
                    obtain rfl := Option.some.inj ho
                    have l7 : L 7 = true := dep_of hd (n := 7) (by decide)
                    have e92 : T.getD 92 undef = .bool true := hF.out.val 7 92 _ l7 rfl rfl
                    have l15 : L 15 = true := dep_of hd (n := 15) (by decide)
                    have e100 : T.getD 100 undef = .bool false := hF.out.val 15 100 _ l15 rfl rfl
                    clear hd ho hi hc hLi
                    exact st_val (v := .bool false) (w' := W) (want_none rfl) (by unfold execOp; dsimp only [Act.eval]; simp only [e92, e100]; go_simp) (hK.out _ _ (hF.out.put (k := 16) (s := 101) rfl (by decide) hN (by decide) (fun u_v hu => Option.some.inj (Option.some.inj (show some (some (.bool false)) = some (some u_v) from hu))) hW.out))
                  | 17, _ =>
                    obtain rfl := Option.some.inj ho
                    have l16 : L 16 = true := dep_of hd (n := 16) (by decide)
                    have e101 : T.getD 101 undef = .bool false := hF.out.val 16 101 _ l16 rfl rfl
                    clear hd ho hi hc hLi
                    exact st_val (v := .bool false) (w' := W) (want_none rfl) (by unfold execOp; dsimp only [Act.eval]; simp only [e101]; go_simp) (hK.out _ _ (hF.out.put (k := 17) (s := 102) rfl (by decide) hN (by decide) (fun u_v hu => Option.some.inj (Option.some.inj (show some (some (.bool false)) = some (some u_v) from hu))) hW.out))
                  | 18, _ =>
                    obtain rfl := Option.some.inj ho
                    have l17 : L 17 = true := dep_of hd (n := 17) (by decide)
                    have e102 : T.getD 102 undef = .bool false := hF.out.val 17 102 _ l17 rfl rfl
                    clear hd ho hi hc hLi
                    exact st_val (v := .bool true) (w' := W) (by rw [want_some (j := 17) (s := 102) rfl rfl e102]; rfl) (by unfold execOp; dsimp only [Act.eval]; simp only [f14]; go_simp) (hK.out _ _ (hF.out.put (k := 18) (s := 103) rfl (by decide) hN (by decide) (fun u_v hu => Option.some.inj (Option.some.inj (show some (some (.bool true)) = some (some u_v) from hu))) hW.out))
                  | 19, _ =>
                    obtain rfl := Option.some.inj ho
                    have l18 : L 18 = true := dep_of hd (n := 18) (by decide)
                    have e103 : T.getD 103 undef = .bool true := hF.out.val 18 103 _ l18 rfl rfl
                    have l17 : L 17 = true := dep_of hd (n := 17) (by decide)
                    have e102 : T.getD 102 undef = .bool false := hF.out.val 17 102 _ l17 rfl rfl
                    clear hd ho hi hc hLi
                    exact st_val (v := .bool true) (w' := W) (by rw [want_some (j := 17) (s := 102) rfl rfl e102]; rfl) (by unfold execOp; dsimp only [Act.eval]; simp only [e103]; go_simp) (hK.out _ _ (hF.out.put (k := 19) (s := 104) rfl (by decide) hN (by decide) (fun u_v hu => Option.some.inj (Option.some.inj (show some (some (.bool true)) = some (some u_v) from hu))) hW.out))
                  | 20, _ =>
                    obtain rfl := Option.some.inj ho
                    have l19 : L 19 = true := dep_of hd (n := 19) (by decide)
                    have e104 : T.getD 104 undef = .bool true := hF.out.val 19 104 _ l19 rfl rfl
                    clear hd ho hi hc hLi
                    exact st_val (v := .pointer (some ⟨mx, 0, none⟩)) (w' := W) (by rw [want_some (j := 19) (s := 104) rfl rfl e104]; rfl) (by unfold execOp; dsimp only [Act.eval]; simp only [f13]; go_simp) (hK.out _ _ (hF.out.put (k := 20) (s := 105) rfl (by decide) hN (by decide) (fun u_v hu => Option.some.inj (Option.some.inj (show some (some (.pointer (some ⟨mx, 0, none⟩))) = some (some u_v) from hu))) hW.out))
                  | 21, _ =>
                    obtain rfl := Option.some.inj ho
                    have l19 : L 19 = true := dep_of hd (n := 19) (by decide)
                    have e104 : T.getD 104 undef = .bool true := hF.out.val 19 104 _ l19 rfl rfl
                    clear hd ho hi hc hLi
                    exact st_val (v := .pointer (some ⟨q, 0, none⟩)) (w' := W) (by rw [want_some (j := 19) (s := 104) rfl rfl e104]; rfl) (by unfold execOp; dsimp only [Act.eval]; simp only [f8]; go_simp) (hK.out _ _ (hF.out.put (k := 21) (s := 106) rfl (by decide) hN (by decide) (fun u_v hu => Option.some.inj (Option.some.inj (show some (some (.pointer (some ⟨q, 0, none⟩))) = some (some u_v) from hu))) hW.out))
                  | 22, _ =>
                    obtain rfl := Option.some.inj ho
                    have l21 : L 21 = true := dep_of hd (n := 21) (by decide)
                    have e106 : T.getD 106 undef = .pointer (some ⟨q, 0, none⟩) := hF.out.val 21 106 _ l21 rfl rfl
                    have l19 : L 19 = true := dep_of hd (n := 19) (by decide)
                    have e104 : T.getD 104 undef = .bool true := hF.out.val 19 104 _ l19 rfl rfl
                    have hcc := (hcx.out W hW.out).1
                    clear hd ho hi hc hLi
                    exact st_val (v := .slice (some ⟨b1, o1, none⟩) n cI) (w' := W) (by rw [want_some (j := 19) (s := 104) rfl rfl e104]; rfl) (by unfold execOp; dsimp only [Act.eval]; simp only [e106]; go_simp) (hK.out _ _ (hF.out.put (k := 22) (s := 107) rfl (by decide) hN (by decide) (fun u_v hu => Option.some.inj (Option.some.inj (show some (some (.slice (some ⟨b1, o1, none⟩) n cI)) = some (some u_v) from hu))) hW.out))
                  | 23, _ =>
                    obtain rfl := Option.some.inj ho
                    have l19 : L 19 = true := dep_of hd (n := 19) (by decide)
                    have e104 : T.getD 104 undef = .bool true := hF.out.val 19 104 _ l19 rfl rfl
                    clear hd ho hi hc hLi
                    exact st_val (v := .int .i64 k) (w' := W) (by rw [want_some (j := 19) (s := 104) rfl rfl e104]; rfl) (by unfold execOp; dsimp only [Act.eval]; simp only [f16]; go_simp) (hK.out _ _ (hF.out.put (k := 23) (s := 108) rfl (by decide) hN (by decide) (fun u_v hu => Option.some.inj (Option.some.inj (show some (some (.int .i64 k)) = some (some u_v) from hu))) hW.out))
                  | 24, _ =>
                    obtain rfl := Option.some.inj ho
                    have l22 : L 22 = true := dep_of hd (n := 22) (by decide)
                    have e107 : T.getD 107 undef = .slice (some ⟨b1, o1, none⟩) n cI := hF.out.val 22 107 _ l22 rfl rfl
                    have l23 : L 23 = true := dep_of hd (n := 23) (by decide)
                    have e108 : T.getD 108 undef = .int .i64 k := hF.out.val 23 108 _ l23 rfl rfl
                    have l19 : L 19 = true := dep_of hd (n := 19) (by decide)
                    have e104 : T.getD 104 undef = .bool true := hF.out.val 19 104 _ l19 rfl rfl
                    clear hd ho hi hc hLi
                    exact st_val (v := .pointer (some ⟨b1, o1 + k, none⟩)) (w' := W) (by rw [want_some (j := 19) (s := 104) rfl rfl e104]; rfl) (by unfold execOp; dsimp only [Act.eval]; simp only [e107, e108]; go_simp) (hK.out _ _ (hF.out.put (k := 24) (s := 109) rfl (by decide) hN (by decide) (fun u_v hu => Option.some.inj (Option.some.inj (show some (some (.pointer (some ⟨b1, o1 + k, none⟩))) = some (some u_v) from hu))) hW.out))
                  | 25, _ =>
                    obtain rfl := Option.some.inj ho
                    have l24 : L 24 = true := dep_of hd (n := 24) (by decide)
                    have e109 : T.getD 109 undef = .pointer (some ⟨b1, o1 + k, none⟩) := hF.out.val 24 109 _ l24 rfl rfl
                    have l19 : L 19 = true := dep_of hd (n := 19) (by decide)
                    have e104 : T.getD 104 undef = .bool true := hF.out.val 19 104 _ l19 rfl rfl
                    have hcc := (hcx.out W hW.out).2
                    clear hd ho hi hc hLi
                    exact st_val (v := .int .i64 x) (w' := W) (by rw [want_some (j := 19) (s := 104) rfl rfl e104]; rfl) (by unfold execOp; dsimp only [Act.eval]; simp only [e109]; go_simp) (hK.out _ _ (hF.out.put (k := 25) (s := 110) rfl (by decide) hN (by decide) (fun u_v hu => Option.some.inj (Option.some.inj (show some (some (.int .i64 x)) = some (some u_v) from hu))) hW.out))
                  | 26, _ =>
                    obtain rfl := Option.some.inj ho
                    have l20 : L 20 = true := dep_of hd (n := 20) (by decide)
                    have e105 : T.getD 105 undef = .pointer (some ⟨mx, 0, none⟩) := hF.out.val 20 105 _ l20 rfl rfl
                    have l25 : L 25 = true := dep_of hd (n := 25) (by decide)
                    have e110 : T.getD 110 undef = .int .i64 x := hF.out.val 25 110 _ l25 rfl rfl
                    have l19 : L 19 = true := dep_of hd (n := 19) (by decide)
                    have e104 : T.getD 104 undef = .bool true := hF.out.val 19 104 _ l19 rfl rfl
                    have cc := Lib.hid (cCx.out W hW.out)
                    clear hd ho hi hc hLi
                    refine st_call (by rw [want_some (j := 19) (s := 104) rfl rfl e104]; rfl) (by unfold execOp; go_simp) cc.out ?_
                    rintro r wz ⟨rfl, hb4⟩
                    exact ⟨_, rfl, hK.out _ _ (hF.out.put (k := 26) (s := 111) rfl (by decide) hN (by decide) (fun u_v hu => Option.some.inj (Option.some.inj (show some (some (.bool true)) = some (some u_v) from hu))) (hW.out.trans (hb4.mono hW.out.size)))⟩
                  | 27, _ =>
                    obtain rfl := Option.some.inj ho
                    have l19 : L 19 = true := dep_of hd (n := 19) (by decide)
                    have e104 : T.getD 104 undef = .bool true := hF.out.val 19 104 _ l19 rfl rfl
                    clear hd ho hi hc hLi
                    exact st_val (v := .pointer (some ⟨my, 0, none⟩)) (w' := W) (by rw [want_some (j := 19) (s := 104) rfl rfl e104]; rfl) (by unfold execOp; dsimp only [Act.eval]; simp only [f15]; go_simp) (hK.out _ _ (hF.out.put (k := 27) (s := 112) rfl (by decide) hN (by decide) (fun u_v hu => Option.some.inj (Option.some.inj (show some (some (.pointer (some ⟨my, 0, none⟩))) = some (some u_v) from hu))) hW.out))
                  | 28, _ =>
                    obtain rfl := Option.some.inj ho
                    have l19 : L 19 = true := dep_of hd (n := 19) (by decide)
                    have e104 : T.getD 104 undef = .bool true := hF.out.val 19 104 _ l19 rfl rfl
                    clear hd ho hi hc hLi
                    exact st_val (v := .pointer (some ⟨q, 0, none⟩)) (w' := W) (by rw [want_some (j := 19) (s := 104) rfl rfl e104]; rfl) (by unfold execOp; dsimp only [Act.eval]; simp only [f8]; go_simp) (hK.out _ _ (hF.out.put (k := 28) (s := 113) rfl (by decide) hN (by decide) (fun u_v hu => Option.some.inj (Option.some.inj (show some (some (.pointer (some ⟨q, 0, none⟩))) = some (some u_v) from hu))) hW.out))
                  | 29, _ =>
                    obtain rfl := Option.some.inj ho
                    have l28 : L 28 = true := dep_of hd (n := 28) (by decide)
                    have e113 : T.getD 113 undef = .pointer (some ⟨q, 0, none⟩) := hF.out.val 28 113 _ l28 rfl rfl
                    have l19 : L 19 = true := dep_of hd (n := 19) (by decide)
                    have e104 : T.getD 104 undef = .bool true := hF.out.val 19 104 _ l19 rfl rfl
                    have hcc := (hcx.out W hW.out).1
                    clear hd ho hi hc hLi
                    exact st_val (v := .slice (some ⟨b1, o1, none⟩) n cI) (w' := W) (by rw [want_some (j := 19) (s := 104) rfl rfl e104]; rfl) (by unfold execOp; dsimp only [Act.eval]; simp only [e113]; go_simp) (hK.out _ _ (hF.out.put (k := 29) (s := 114) rfl (by decide) hN (by decide) (fun u_v hu => Option.some.inj (Option.some.inj (show some (some (.slice (some ⟨b1, o1, none⟩) n cI)) = some (some u_v) from hu))) hW.out))
                  | 30, _ =>
                    obtain rfl := Option.some.inj ho
                    have l19 : L 19 = true := dep_of hd (n := 19) (by decide)
                    have e104 : T.getD 104 undef = .bool true := hF.out.val 19 104 _ l19 rfl rfl
                    clear hd ho hi hc hLi
                    exact st_val (v := .int .i64 k) (w' := W) (by rw [want_some (j := 19) (s := 104) rfl rfl e104]; rfl) (by unfold execOp; dsimp only [Act.eval]; simp only [f16]; go_simp) (hK.out _ _ (hF.out.put (k := 30) (s := 115) rfl (by decide) hN (by decide) (fun u_v hu => Option.some.inj (Option.some.inj (show some (some (.int .i64 k)) = some (some u_v) from hu))) hW.out))
                  | 31, _ =>
                    obtain rfl := Option.some.inj ho
                    have l29 : L 29 = true := dep_of hd (n := 29) (by decide)
                    have e114 : T.getD 114 undef = .slice (some ⟨b1, o1, none⟩) n cI := hF.out.val 29 114 _ l29 rfl rfl
                    have l30 : L 30 = true := dep_of hd (n := 30) (by decide)
                    have e115 : T.getD 115 undef = .int .i64 k := hF.out.val 30 115 _ l30 rfl rfl
                    have l19 : L 19 = true := dep_of hd (n := 19) (by decide)
                    have e104 : T.getD 104 undef = .bool true := hF.out.val 19 104 _ l19 rfl rfl
                    clear hd ho hi hc hLi
                    exact st_val (v := .pointer (some ⟨b1, o1 + k, none⟩)) (w' := W) (by rw [want_some (j := 19) (s := 104) rfl rfl e104]; rfl) (by unfold execOp; dsimp only [Act.eval]; simp only [e114, e115]; go_simp) (hK.out _ _ (hF.out.put (k := 31) (s := 116) rfl (by decide) hN (by decide) (fun u_v hu => Option.some.inj (Option.some.inj (show some (some (.pointer (some ⟨b1, o1 + k, none⟩))) = some (some u_v) from hu))) hW.out))
                  | 32, _ =>
                    obtain rfl := Option.some.inj ho
                    have l31 : L 31 = true := dep_of hd (n := 31) (by decide)
                    have e116 : T.getD 116 undef = .pointer (some ⟨b1, o1 + k, none⟩) := hF.out.val 31 116 _ l31 rfl rfl
                    have l19 : L 19 = true := dep_of hd (n := 19) (by decide)
                    have e104 : T.getD 104 undef = .bool true := hF.out.val 19 104 _ l19 rfl rfl
                    have hcc := (hcx.out W hW.out).2
                    clear hd ho hi hc hLi
                    exact st_val (v := .int .i64 x) (w' := W) (by rw [want_some (j := 19) (s := 104) rfl rfl e104]; rfl) (by unfold execOp; dsimp only [Act.eval]; simp only [e116]; go_simp) (hK.out _ _ (hF.out.put (k := 32) (s := 117) rfl (by decide) hN (by decide) (fun u_v hu => Option.some.inj (Option.some.inj (show some (some (.int .i64 x)) = some (some u_v) from hu))) hW.out))
                  | 33, _ =>
                    obtain rfl := Option.some.inj ho
                    have l27 : L 27 = true := dep_of hd (n := 27) (by decide)
                    have e112 : T.getD 112 undef = .pointer (some ⟨my, 0, none⟩) := hF.out.val 27 112 _ l27 rfl rfl
                    have l32 : L 32 = true := dep_of hd (n := 32) (by decide)
                    have e117 : T.getD 117 undef = .int .i64 x := hF.out.val 32 117 _ l32 rfl rfl
                    have l19 : L 19 = true := dep_of hd (n := 19) (by decide)
                    have e104 : T.getD 104 undef = .bool true := hF.out.val 19 104 _ l19 rfl rfl
                    have cc := Lib.hid (cCy.out W hW.out)
                    clear hd ho hi hc hLi
                    refine st_call (by rw [want_some (j := 19) (s := 104) rfl rfl e104]; rfl) (by unfold execOp; go_simp) cc.out ?_
                    rintro r wz ⟨rfl, hb4⟩
                    exact ⟨_, rfl, hK.out _ _ (hF.out.put (k := 33) (s := 118) rfl (by decide) hN (by decide) (fun u_v hu => Option.some.inj (Option.some.inj (show some (some (.bool true)) = some (some u_v) from hu))) (hW.out.trans (hb4.mono hW.out.size)))⟩
                  | 34, _ =>
                    obtain rfl := Option.some.inj ho
                    have l26 : L 26 = true := dep_of hd (n := 26) (by decide)
                    have e111 : T.getD 111 undef = .bool true := hF.out.val 26 111 _ l26 rfl rfl
                    have l33 : L 33 = true := dep_of hd (n := 33) (by decide)
                    have e118 : T.getD 118 undef = .bool true := hF.out.val 33 118 _ l33 rfl rfl
                    have l19 : L 19 = true := dep_of hd (n := 19) (by decide)
                    have e104 : T.getD 104 undef = .bool true := hF.out.val 19 104 _ l19 rfl rfl
                    clear hd ho hi hc hLi
                    exact st_val (v := .bool false) (w' := W) (by rw [want_some (j := 19) (s := 104) rfl rfl e104]; rfl) (by unfold execOp; dsimp only [Act.eval]; simp only [e111, e118]; go_simp) (hK.out _ _ (hF.out.put (k := 34) (s := 119) rfl (by decide) hN (by decide) (fun u_v hu => Option.some.inj (Option.some.inj (show some (some (.bool false)) = some (some u_v) from hu))) hW.out))
                  | 35, _ =>
                    obtain rfl := Option.some.inj ho
                    have l19 : L 19 = true := dep_of hd (n := 19) (by decide)
                    have e104 : T.getD 104 undef = .bool true := hF.out.val 19 104 _ l19 rfl rfl
                    have l34 : L 34 = true := dep_of hd (n := 34) (by decide)
                    have e119 : T.getD 119 undef = .bool false := hF.out.val 34 119 _ l34 rfl rfl
                    have l17 : L 17 = true := dep_of hd (n := 17) (by decide)
                    have e102 : T.getD 102 undef = .bool false := hF.out.val 17 102 _ l17 rfl rfl
                    clear hd ho hi hc hLi
                    exact st_val (v := .bool false) (w' := W) (by rw [want_some (j := 17) (s := 102) rfl rfl e102]; rfl) (by unfold execOp; dsimp only [Act.eval]; simp only [e104, e119]; go_simp) (hK.out _ _ (hF.out.put (k := 35) (s := 120) rfl (by decide) hN (by decide) (fun u_v hu => Option.some.inj (Option.some.inj (show some (some (.bool false)) = some (some u_v) from hu))) hW.out))
                  | 36, _ =>
                    obtain rfl := Option.some.inj ho
                    have l17 : L 17 = true := dep_of hd (n := 17) (by decide)
                    have e102 : T.getD 102 undef = .bool false := hF.out.val 17 102 _ l17 rfl rfl
                    have l35 : L 35 = true := dep_of hd (n := 35) (by decide)
                    have e120 : T.getD 120 undef = .bool false := hF.out.val 35 120 _ l35 rfl rfl
                    clear hd ho hi hc hLi
                    exact st_val (v := .bool false) (w' := W) (want_none rfl) (by unfold execOp; dsimp only [Act.eval]; simp only [e102, e120]; go_simp) (hK.out _ _ (hF.out.put (k := 36) (s := 121) rfl (by decide) hN (by decide) (fun u_v hu => Option.some.inj (Option.some.inj (show some (some (.bool false)) = some (some u_v) from hu))) hW.out))
                case hdone =>
                  intro L T W2 hF hW hall
                  have hB18 := Lib.hid (hbr.out.trans (hW.mono hbr.out.size))
                  clear hW hcx cCx cCy hb hbr
                  have hT : T = #[.slice A n c, .agg (cutC ka kb j), .int .i64 i, undef, .pointer (some ⟨p0, 0, none⟩), undef, u6, .pointer (some ⟨g, 0, none⟩), .pointer (some ⟨q, 0, none⟩), .int .i64 tx, .string tt, .slice A8 (sn + 1) c8, .int .i64 j, .pointer (some ⟨mx, 0, none⟩), .bool true, .pointer (some ⟨my, 0, none⟩), .int .i64 k, .slice A n c, .agg #[.int .i64 ka, .int .i64 kb, .int .i64 j], .bool true, .bool false, undef, .pointer (some ⟨g, 0, none⟩), .pointer (some ⟨g, 0, none⟩), .slice A n c, .agg #[.slice (some ⟨b1, o1, none⟩) n cI, .slice AT n cT], .tuple #[.int .i64 tx, .string tt], .agg #[.slice (some ⟨b1, o1, none⟩) n cI, .slice AT n cT], .int .i64 i, .tuple #[.int .i64 tx, .string tt], .int .i64 tx, .string tt, .pointer (some ⟨p0, 1, none⟩), .int .i64 kb, .int .i64 j, .pointer (some ⟨p0, 2, none⟩), .int .i64 j, .bool false, u38, u39, u40, u41, u42, u43, u44, u45, u46, u47, .pointer (some ⟨g, 0, none⟩), .pointer (some ⟨q, 0, none⟩), .slice (some ⟨b1, o1, none⟩) n cI, .pointer (some ⟨p0, 0, none⟩), .int .i64 ka, .pointer (some ⟨p0, 1, none⟩), .int .i64 kb, .slice (behind3 (some ⟨b1, o1, none⟩) ka cI) (kb - ka) (cI - ka), .slice As sn cs, .pointer (some ⟨mx, 0, none⟩), u58, u59, u60, u61, u62, u63, u64, .slice As sn cs, .int .i64 tx, .slice (some ⟨wc.heap.size, 0, none⟩) 1 1, .slice A8 (sn + 1) c8, .pointer (some ⟨g, 0, none⟩), .pointer (some ⟨q, 0, none⟩), .slice (some ⟨b1, o1, none⟩) n cI, .pointer (some ⟨p0, 0, none⟩), .int .i64 ka, .pointer (some ⟨p0, 1, none⟩), .int .i64 kb, .slice (behind3 (some ⟨b1, o1, none⟩) ka cI) (kb - ka) (cI - ka), .slice A8 (sn + 1) c8, .pointer (some ⟨my, 0, none⟩), .int .i64 k, .slice A n c, .int .i64 n, .bool true, u83, u84, .pointer (some ⟨mx, 0, none⟩), .pointer (some ⟨q, 0, none⟩), .slice (some ⟨b1, o1, none⟩) n cI, .int .i64 k, .pointer (some ⟨b1, o1 + k, none⟩), .int .i64 x, .bool true, .bool true, .pointer (some ⟨my, 0, none⟩), .pointer (some ⟨q, 0, none⟩), .slice (some ⟨b1, o1, none⟩) n cI, .int .i64 k, .pointer (some ⟨b1, o1 + k, none⟩), .int .i64 x, .bool true, .bool false, .bool false, .bool false, .bool true, .bool true, .pointer (some ⟨mx, 0, none⟩), .pointer (some ⟨q, 0, none⟩), .slice (some ⟨b1, o1, none⟩) n cI, .int .i64 k, .pointer (some ⟨b1, o1 + k, none⟩), .int .i64 x, .bool true, .pointer (some ⟨my, 0, none⟩), .pointer (some ⟨q, 0, none⟩), .slice (some ⟨b1, o1, none⟩) n cI, .int .i64 k, .pointer (some ⟨b1, o1 + k, none⟩), .int .i64 x, .bool true, .bool false, .bool false, .bool false, undef, undef, undef, undef, undef, undef, undef, undef, undef, undef] := (hF.fin [(85, .pointer (some ⟨mx, 0, none⟩)), (86, .pointer (some ⟨q, 0, none⟩)), (87, .slice (some ⟨b1, o1, none⟩) n cI), (88, .int .i64 k), (89, .pointer (some ⟨b1, o1 + k, none⟩)), (90, .int .i64 x), (91, .bool true), (92, .bool true), (93, .pointer (some ⟨my, 0, none⟩)), (94, .pointer (some ⟨q, 0, none⟩)), (95, .slice (some ⟨b1, o1, none⟩) n cI), (96, .int .i64 k), (97, .pointer (some ⟨b1, o1 + k, none⟩)), (98, .int .i64 x), (99, .bool true), (100, .bool false), (101, .bool false), (102, .bool false), (103, .bool true), (104, .bool true), (105, .pointer (some ⟨mx, 0, none⟩)), (106, .pointer (some ⟨q, 0, none⟩)), (107, .slice (some ⟨b1, o1, none⟩) n cI), (108, .int .i64 k), (109, .pointer (some ⟨b1, o1 + k, none⟩)), (110, .int .i64 x), (111, .bool true), (112, .pointer (some ⟨my, 0, none⟩)), (113, .pointer (some ⟨q, 0, none⟩)), (114, .slice (some ⟨b1, o1, none⟩) n cI), (115, .int .i64 k), (116, .pointer (some ⟨b1, o1 + k, none⟩)), (117, .int .i64 x), (118, .bool true), (119, .bool false), (120, .bool false), (121, .bool false)] [85, 86, 87, 88, 89, 90, 91, 92, 93, 94, 95, 96, 97, 98, 99, 100, 101, 102, 103, 104, 105, 106, 107, 108, 109, 110, 111, 112, 113, 114, 115, 116, 117, 118, 119, 120, 121] rfl (List.forall_mem_cons.2 ⟨hF.val 0 _ _ (hall 0 (show 0 < 37 by decide)) rfl rfl, (List.forall_mem_cons.2 ⟨hF.val 1 _ _ (hall 1 (show 1 < 37 by decide)) rfl rfl, (List.forall_mem_cons.2 ⟨hF.val 2 _ _ (hall 2 (show 2 < 37 by decide)) rfl rfl, (List.forall_mem_cons.2 ⟨hF.val 3 _ _ (hall 3 (show 3 < 37 by decide)) rfl rfl, (List.forall_mem_cons.2 ⟨hF.val 4 _ _ (hall 4 (show 4 < 37 by decide)) rfl rfl, (List.forall_mem_cons.2 ⟨hF.val 5 _ _ (hall 5 (show 5 < 37 by decide)) rfl rfl, (List.forall_mem_cons.2 ⟨hF.val 6 _ _ (hall 6 (show 6 < 37 by decide)) rfl rfl, (List.forall_mem_cons.2 ⟨hF.val 7 _ _ (hall 7 (show 7 < 37 by decide)) rfl rfl, (List.forall_mem_cons.2 ⟨hF.val 8 _ _ (hall 8 (show 8 < 37 by decide)) rfl rfl, (List.forall_mem_cons.2 ⟨hF.val 9 _ _ (hall 9 (show 9 < 37 by decide)) rfl rfl, (List.forall_mem_cons.2 ⟨hF.val 10 _ _ (hall 10 (show 10 < 37 by decide)) rfl rfl, (List.forall_mem_cons.2 ⟨hF.val 11 _ _ (hall 11 (show 11 < 37 by decide)) rfl rfl, (List.forall_mem_cons.2 ⟨hF.val 12 _ _ (hall 12 (show 12 < 37 by decide)) rfl rfl, (List.forall_mem_cons.2 ⟨hF.val 13 _ _ (hall 13 (show 13 < 37 by decide)) rfl rfl, (List.forall_mem_cons.2 ⟨hF.val 14 _ _ (hall 14 (show 14 < 37 by decide)) rfl rfl, (List.forall_mem_cons.2 ⟨hF.val 15 _ _ (hall 15 (show 15 < 37 by decide)) rfl rfl, (List.forall_mem_cons.2 ⟨hF.val 16 _ _ (hall 16 (show 16 < 37 by decide)) rfl rfl, (List.forall_mem_cons.2 ⟨hF.val 17 _ _ (hall 17 (show 17 < 37 by decide)) rfl rfl, (List.forall_mem_cons.2 ⟨hF.val 18 _ _ (hall 18 (show 18 < 37 by decide)) rfl rfl, (List.forall_mem_cons.2 ⟨hF.val 19 _ _ (hall 19 (show 19 < 37 by decide)) rfl rfl, (List.forall_mem_cons.2 ⟨hF.val 20 _ _ (hall 20 (show 20 < 37 by decide)) rfl rfl, (List.forall_mem_cons.2 ⟨hF.val 21 _ _ (hall 21 (show 21 < 37 by decide)) rfl rfl, (List.forall_mem_cons.2 ⟨hF.val 22 _ _ (hall 22 (show 22 < 37 by decide)) rfl rfl, (List.forall_mem_cons.2 ⟨hF.val 23 _ _ (hall 23 (show 23 < 37 by decide)) rfl rfl, (List.forall_mem_cons.2 ⟨hF.val 24 _ _ (hall 24 (show 24 < 37 by decide)) rfl rfl, (List.forall_mem_cons.2 ⟨hF.val 25 _ _ (hall 25 (show 25 < 37 by decide)) rfl rfl, (List.forall_mem_cons.2 ⟨hF.val 26 _ _ (hall 26 (show 26 < 37 by decide)) rfl rfl, (List.forall_mem_cons.2 ⟨hF.val 27 _ _ (hall 27 (show 27 < 37 by decide)) rfl rfl, (List.forall_mem_cons.2 ⟨hF.val 28 _ _ (hall 28 (show 28 < 37 by decide)) rfl rfl, (List.forall_mem_cons.2 ⟨hF.val 29 _ _ (hall 29 (show 29 < 37 by decide)) rfl rfl, (List.forall_mem_cons.2 ⟨hF.val 30 _ _ (hall 30 (show 30 < 37 by decide)) rfl rfl, (List.forall_mem_cons.2 ⟨hF.val 31 _ _ (hall 31 (show 31 < 37 by decide)) rfl rfl, (List.forall_mem_cons.2 ⟨hF.val 32 _ _ (hall 32 (show 32 < 37 by decide)) rfl rfl, (List.forall_mem_cons.2 ⟨hF.val 33 _ _ (hall 33 (show 33 < 37 by decide)) rfl rfl, (List.forall_mem_cons.2 ⟨hF.val 34 _ _ (hall 34 (show 34 < 37 by decide)) rfl rfl, (List.forall_mem_cons.2 ⟨hF.val 35 _ _ (hall 35 (show 35 < 37 by decide)) rfl rfl, (List.forall_mem_cons.2 ⟨hF.val 36 _ _ (hall 36 (show 36 < 37 by decide)) rfl rfl, (fun _ h => absurd h List.not_mem_nil)⟩)⟩)⟩)⟩)⟩)⟩)⟩)⟩)⟩)⟩)⟩)⟩)⟩)⟩)⟩)⟩)⟩)⟩)⟩)⟩)⟩)⟩)⟩)⟩)⟩)⟩)⟩)⟩)⟩)⟩)⟩)⟩)⟩)⟩)⟩)⟩)⟩) (by decide)).trans (by kernel_rfl)
                  clear hF hall
                  subst hT
                  go_wp2_with fail
                  go_roundw
                  case rel => exact ⟨k + 1, by omega, by go_num, hB18⟩
                  case measure => simp [intOf]; omega
            · have hBr := hB9.out.trans (hb.out.mono hB9.out.size)
              have hw := Lib.hid (show Below w.heap.size w wr from hb2w.out.trans ((hdm.out.trans (hBr.mono hdm.out.size)).mono hb2w.out.size))
              have hFyr := hFy.out.keep hb.out
              have hSr := (hAt.out wr hBr).2.2.2.2.1
              rcases hot : ot with _ | tt0
              · have h1 := hnn.out.1 hot
                clear hBr hFyr hSr hot
                go_wp2_with (go_at_call 8; refine (cA.out _).mono ?_; rintro r w10 ⟨rfl, hb10⟩; replace hb10 := Lib.hid (hw.out.trans (hb10.mono hw.out.size)))
                go_ret
                exact ⟨rfl, hb10.out⟩
              · have h1 := hnn.out.2 (by rw [hot]; simp)
                have hin := (hlaw.out none (fun t h => by cases h)).2.2 tt0 hot
                have hgt : get L tx = some tt0 := by rw [ht.out.1, hot]
                have cH := Lib.hid (fun W' (h : Below wr.heap.size wr W') => Calls.mono (mHas_some (hFyr.keep h) hSr.good.once hSr.few tx tt0 hgt) fun (r : Ending) (W2 : World) ⟨q', h1, h2, h3⟩ => (show r = Ending.returned (.bool true) ∧ W' = W2 from ⟨by rw [h1, h2.2 hin], h3⟩))
                clear hBr hFyr hSr hot hin hgt
                go_wp2_with (first
                  | (go_at_call 8; refine (cA.out _).mono ?_; rintro r w10 ⟨rfl, hb10⟩; have cH := Lib.hid (cH.out w10 hb10); replace hb10 := Lib.hid (hw.out.trans (hb10.mono hw.out.size)))
                  | (go_at_call 14; (with_reducible refine cH.out.mono ?_); rintro r w11 ⟨rfl, rfl⟩))
                go_ret
                exact ⟨rfl, hb10.out⟩
end Go.Proofs.YtphnakdgpilcmaaGreatDoor
