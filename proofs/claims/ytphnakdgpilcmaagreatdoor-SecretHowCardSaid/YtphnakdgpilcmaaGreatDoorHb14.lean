/- The program's encoder: numbers, texts, and what stands ahead of a term's terms. (printed by wip/gen_coa.py) -/
import Derived.Test.YtphnakdgpilcmaaGreatDoorHb2
namespace Go.Proofs.YtphnakdgpilcmaaGreatDoor
open Go.RowKit

set_option maxRecDepth 100000 in
theorem cU32_any (n : Nat) (w : World) (h1 : n < 4294967296) :
    Calls Tryz.prog 128 #[.int .u32 n] w (TxR w (u32 n)) := by
  have kc : (convert 96 9 (.slice (some ⟨w.heap.size, 0, none⟩) 4 4)).run Tryz.prog (w.alloc (.cells #[.int .u8 ((n : Int) / 16777216), .int .u8 ((n : Int) / 65536 % 256), .int .u8 ((n : Int) / 256 % 256), .int .u8 ((n : Int) % 256)] 5)) = .ok (.string (bs (u32 n))) (w.alloc (.cells #[.int .u8 ((n : Int) / 16777216), .int .u8 ((n : Int) / 65536 % 256), .int .u8 ((n : Int) / 256 % 256), .int .u8 ((n : Int) % 256)] 5)) := by
    have h := conv_nums w [n / 16777216 % 256, n / 65536 % 256, n / 256 % 256, n % 256]
    rw [← u32_nums] at h
    have e : n / 16777216 % 256 = n / 16777216 := by omega
    rw [e] at h
    simpa using h
  have hB := Lib.hid ((Below.refl w.heap.size w).alloc (Nat.le_refl _) (.cells #[.int .u8 ((n : Int) / 16777216), .int .u8 ((n : Int) / 65536 % 256), .int .u8 ((n : Int) / 256 % 256), .int .u8 ((n : Int) % 256)] 5))
  go_enter Tryz.func128, Tryz.ntmps128
  go_wp2
  go_ret
  exact ⟨rfl, hB.out⟩
theorem cNum_any (n : Nat) (w : World) (h1 : n < 4294967296) :
    Calls Tryz.prog 113 #[.int .i64 n] w (TxR w (u32 n)) := by
  have c1 := fun W => cU32_any n W h1
  unfold TxR at c1 ⊢
  replace c1 := Lib.hid c1
  go_enter Tryz.func113, Tryz.ntmps113
  go_wp2_with (go_at_call 128; refine (c1.out _).mono ?_; rintro r w1 ⟨rfl, hb1⟩)
  go_ret
  exact ⟨rfl, hb1⟩
theorem cText_any (s : List UInt8) (w : World) (h1 : s.length ≤ 4000000000) :
    Calls Tryz.prog 112 #[.string (bs s)] w (TxR w (u32 s.length ++ s)) := by
  have c1 := fun W => cNum_any s.length W (by omega)
  have hcat := bs_add (u32 s.length) s
  have z1 := bs_size (u32 s.length)
  have z2 := bs_size s
  rw [u32_len] at z1
  unfold TxR at c1 ⊢
  rw [← hcat]
  rw [← z2] at c1
  rw [← z2] at h1 z1 ⊢
  generalize bs (u32 (bs s).size) = x1 at *
  generalize bs s = x2 at *
  replace c1 := Lib.hid c1
  clear hcat z2
  go_enter Tryz.func112, Tryz.ntmps112
  go_wp2_with (go_at_call 113; refine (c1.out _).mono ?_; rintro r w1 ⟨rfl, hb1⟩)
  go_ret
  exact ⟨rfl, hb1⟩
def PCh (q : Nat) (a : Nat) (b : Nat) (tg : ByteArray) (y1 : ByteArray) (y2 : ByteArray) (i : Nat) (x : Value) : Prop := match i with
  | 0 => x = .string tg
  | 1 => x = .pointer (some ⟨q, 1, none⟩)
  | 2 => x = .int .i64 a
  | 3 => x = .string y1
  | 4 => x = .string (tg ++ y1)
  | 5 => x = .pointer (some ⟨q, 2, none⟩)
  | 6 => x = .int .i64 b
  | 7 => x = .string y2
  | 8 => x = .string (tg ++ y1 ++ y2)
  | 9 => x = .string (tg ++ y1 ++ y2)
  | _ => True
def ICh (F : Value → Value → Value → Value → Value → Value → Value → Value → Value → Value → Array Value) (q : Nat) (a : Nat) (b : Nat) (tg : ByteArray) (y1 : ByteArray) (y2 : ByteArray) (Wi : (Nat → Bool) → World → Prop) (L : Nat → Bool) (ac : Act) (W : World) : Prop :=
  ∃ x0 x1 x2 x3 x4 x5 x6 x7 x8 x9, ac = ⟨F x0 x1 x2 x3 x4 x5 x6 x7 x8 x9, []⟩ ∧ (∀ jj, L jj = true → PCh q a b tg y1 y2 jj ([x0, x1, x2, x3, x4, x5, x6, x7, x8, x9].getD jj undef)) ∧ Wi L W
def PCs (q : Nat) (m : Nat) (A : Option Addr) (c : Nat) (tg : ByteArray) (g : ByteArray) (y1 : ByteArray) (y2 : ByteArray) (i : Nat) (x : Value) : Prop := match i with
  | 0 => x = .string tg
  | 1 => x = .pointer (some ⟨q, 3, none⟩)
  | 2 => x = .string g
  | 3 => x = .string y1
  | 4 => x = .string (tg ++ y1)
  | 5 => x = .pointer (some ⟨q, 4, none⟩)
  | 6 => x = .slice A m c
  | 7 => x = .int .i64 m
  | 8 => x = .string y2
  | 9 => x = .string (tg ++ y1 ++ y2)
  | 10 => x = .string (tg ++ y1 ++ y2)
  | _ => True
def ICs (F : Value → Value → Value → Value → Value → Value → Value → Value → Value → Value → Value → Array Value) (q : Nat) (m : Nat) (A : Option Addr) (c : Nat) (tg : ByteArray) (g : ByteArray) (y1 : ByteArray) (y2 : ByteArray) (Wi : (Nat → Bool) → World → Prop) (L : Nat → Bool) (ac : Act) (W : World) : Prop :=
  ∃ x0 x1 x2 x3 x4 x5 x6 x7 x8 x9 x10, ac = ⟨F x0 x1 x2 x3 x4 x5 x6 x7 x8 x9 x10, []⟩ ∧ (∀ jj, L jj = true → PCs q m A c tg g y1 y2 jj ([x0, x1, x2, x3, x4, x5, x6, x7, x8, x9, x10].getD jj undef)) ∧ Wi L W
set_option maxRecDepth 100000 in
set_option maxHeartbeats 4000000 in
theorem cHead_any (k a b m : Nat) (s : List UInt8) (hok : okHd k a b s m) (A : Option Addr) (c : Nat) (w : World) :
    Calls Tryz.prog 90 #[.agg (ndC k a b s (.slice A m c)).toArray] w (TxR w (UInt8.ofNat (240 + k) :: hd k a b s m)) := by
  have hB := below_new w (.cells (ndC k a b s (.slice A m c)).toArray 52)
  have hn := heap_new w (.cells (ndC k a b s (.slice A m c)).toArray 52)
  have hlt : w.heap.size < (w.alloc (.cells (ndC k a b s (.slice A m c)).toArray 52)).heap.size := by simp
  have f0 := cell_of_row _ w.heap.size 0 _ _ _ hn
  have hn2 := heap_past hn (.cells #[.int .u8 (240 + (k : Int))] 5)
  have d0 := cell_of_row _ w.heap.size 0 _ _ _ hn2
  have d1 := cell_of_row _ w.heap.size 1 _ _ _ hn2
  have d2 := cell_of_row _ w.heap.size 2 _ _ _ hn2
  have d3 := cell_of_row _ w.heap.size 3 _ _ _ hn2
  have d4 := cell_of_row _ w.heap.size 4 _ _ _ hn2
  have hk1 := okHd_kind hok
  have kc := fun W => conv_nums W [240 + k]
  unfold okHd at hok
  unfold ndC at f0 d0 d1 d2 d3 d4 hB hlt ⊢
  clear hn hn2
  have kc1 := kc (w.alloc (.cells [Value.int .i64 k, .int .i64 a, .int .i64 b, .string (bs s), .slice A m c].toArray 52))
  simp only [List.map_cons, List.map_nil, List.length_cons, List.length_nil, Nat.zero_add, Nat.reduceAdd] at kc1
  rw [show (((240 + k : Nat) : Int)) = 240 + (k : Int) by omega] at kc1
  rw [World.size_alloc] at kc1
  obtain ⟨tb, htb⟩ : ∃ tb, tb = UInt8.ofNat (240 + k) := ⟨_, rfl⟩
  obtain ⟨res, hres⟩ : ∃ res, res = UInt8.ofNat (240 + k) :: hd k a b s m := ⟨_, rfl⟩
  rw [← hres]
  rw [← htb] at kc1 hres
  have hz1 := bs_size [tb]
  have hout : ∀ l (x : ByteArray), hd k a b s m = l → x = bs l → bs [tb] ++ x = bs res := fun l x h1 h2 => by rw [h2, bs_add, hres, h1]; rfl
  have hres0 : hd k a b s m = [] → bs [tb] = bs res := fun h => by rw [hres, h]
  simp only [List.length_singleton] at hz1
  generalize bs [tb] = tg at *
  replace hout := Lib.hid hout
  replace hres0 := Lib.hid hres0
  clear htb hres
  have hk0 : (0 : Int) ≤ k := by omega
  have hk10 : (k : Int) ≤ 10 := by omega
  clear kc
  go_enter Tryz.func90, Tryz.ntmps90
  go_upto_region 2 with fail
  clear f0
  have hw1 := hB.alloc hB.size (.cells #[.int .u8 (240 + (k : Int))] 5)
  have hlt1 : w.heap.size < ((w.alloc (.cells #[.int .i64 k, .int .i64 a, .int .i64 b, .string (bs s), .slice A m c] 52)).alloc (.cells #[.int .u8 (240 + (k : Int))] 5)).heap.size := by simp; omega
  replace hw1 := Lib.hid hw1
  clear kc1 hB hlt
  generalize ((w.alloc (.cells #[.int .i64 k, .int .i64 a, .int .i64 b, .string (bs s), .slice A m c] 52)).alloc (.cells #[.int .u8 (240 + (k : Int))] 5)) = w1 at *
  replace hlt1 := Lib.hid hlt1
  rcases hok with hok | hok | hok | hok | hok | hok | hok | hok | hok | hok
  · obtain ⟨rfl, rfl, rfl, rfl, hs⟩ := hok
    have cT := fun W => cText_any s W (by omega)
    unfold TxR at cT ⊢
    have hf := Lib.hid (hout.out (u32 s.length ++ s) _ (by simp [hd]) rfl)
    have hz2 := bs_size (u32 s.length ++ s)
    rw [List.length_append, u32_len] at hz2
    have hz3 : (bs (u32 s.length ++ s)).size ≤ 200000 := by omega
    clear hz2
    generalize bs (u32 s.length ++ s) = x2 at *
    generalize bs s = x1 at *
    replace cT := Lib.hid cT
    go_wp2_with (go_at_call 112; refine (cT.out _).mono ?_; rintro r w2 ⟨rfl, hb2⟩)
    go_ret
    exact ⟨by first | rfl | (rw [← hf.out]; rfl), hw1.out.trans (hb2.mono hw1.out.size)⟩
  · obtain ⟨rfl, ha, hb, rfl, rfl⟩ := hok
    have c1 := fun W => cNum_any a W (by omega)
    have c2 := fun W => cNum_any b W (by omega)
    unfold TxR at c1 c2 ⊢
    have hf := hout.out (u32 a ++ u32 b) _ (by simp [hd]) rfl
    rw [← bs_add, ← ByteArray.append_assoc] at hf
    have hz2 := bs_size (u32 a)
    have hz3 := bs_size (u32 b)
    rw [u32_len] at hz2 hz3
    replace hf := Lib.hid hf
    generalize bs (u32 a) = y1 at *
    generalize bs (u32 b) = y2 at *
    generalize bs [] = e0 at *
    replace c1 := Lib.hid c1
    replace c2 := Lib.hid c2
    go_upto_region 7 with fail
    refine region_inv (ICh (fun x0 x1 x2 x3 x4 x5 x6 x7 x8 x9 => #[.agg #[.int .i64 ((2 : Nat) : Int), .int .i64 a, .int .i64 b, .string e0, .slice A 0 c], .pointer (some ⟨w.heap.size, 0, none⟩), x9, .string tg, .pointer (some ⟨w.heap.size, 0, none⟩), .int .i64 ((2 : Nat) : Int), .int .i64 (240 + ((2 : Nat) : Int)), .int .u8 (240 + ((2 : Nat) : Int)), .slice (some ⟨w.heap.size + 1, 0, none⟩) 1 1, .string tg, .pointer (some ⟨w.heap.size, 0, none⟩), .int .i64 2, .bool false, .bool false, .bool false, undef, undef, undef, undef, undef, .bool true, .bool true, x0, x1, x2, x3, x4, x5, x6, x7, x8, undef, undef, undef, undef, undef, undef, undef, undef, undef, undef, undef, undef, undef, undef, undef, undef, undef, undef, undef, undef, undef, undef, undef, undef, undef, undef, undef, undef, undef, undef, undef, undef, undef, undef, undef, undef, undef, undef, undef, undef, undef, undef, undef, undef]) w.heap.size a b tg y1 y2 (fun L W => Below w1.heap.size w1 W)) ?hlt ?hstep ?hdone rfl (by kernel_rfl) ?start
    case start => exact ⟨undef, undef, undef, undef, undef, undef, undef, undef, undef, .string ⟨#[]⟩, rfl, inv_start (n := 10) (fun _ => trivial), drewN_below 1⟩
    case hlt =>
      intro i o ho
      have hi := (Array.getElem?_eq_some_iff.1 ho).1
      match i, hi with
      | 0, _ => obtain rfl := Option.some.inj ho; decide
      | 1, _ => obtain rfl := Option.some.inj ho; decide
      | 2, _ => obtain rfl := Option.some.inj ho; decide
      | 3, _ => obtain rfl := Option.some.inj ho; decide
      | 4, _ => obtain rfl := Option.some.inj ho; decide
      | 5, _ => obtain rfl := Option.some.inj ho; decide
      | 6, _ => obtain rfl := Option.some.inj ho; decide
      | 7, _ => obtain rfl := Option.some.inj ho; decide
      | 8, _ => obtain rfl := Option.some.inj ho; decide
      | 9, _ => obtain rfl := Option.some.inj ho; decide
    case hstep =>
      rintro L ac W i o ⟨x0, x1, x2, x3, x4, x5, x6, x7, x8, x9, rfl, hF, hW⟩ ho hLi hd K hK
      have hF := Lib.hid hF
      have hW := Lib.hid hW
      have hK := Lib.hid hK
      have hi := (Array.getElem?_eq_some_iff.1 ho).1
      match i, hi with
      | 0, _ =>
        obtain rfl := Option.some.inj ho
        clear hd ho hi hLi
        go_simp
        exact hK.out _ _ ⟨_, x1, x2, x3, x4, x5, x6, x7, x8, x9, rfl, inv_step (i := 0) (x' := .string tg) hF.out rfl (show 0 < 10 by decide), hW.out⟩
      | 1, _ =>
        obtain rfl := Option.some.inj ho
        clear hd ho hi hLi
        go_simp
        exact hK.out _ _ ⟨x0, _, x2, x3, x4, x5, x6, x7, x8, x9, rfl, inv_step (i := 1) (x' := .pointer (some ⟨w.heap.size, 1, none⟩)) hF.out rfl (show 1 < 10 by decide), hW.out⟩
      | 2, _ =>
        obtain rfl := Option.some.inj ho
        have l1 : L 1 = true := dep_of hd (n := 1) (by decide)
        obtain rfl := Eq.symm (hF.out 1 l1 : x1 = _)
        have hcc := (hW.out.cell (p := ⟨w.heap.size, 1, none⟩) hlt1.out).trans d1
        clear hd ho hi hLi l1
        go_simp
        exact hK.out _ _ ⟨x0, _, _, x3, x4, x5, x6, x7, x8, x9, rfl, inv_step (i := 2) (x' := .int .i64 a) hF.out rfl (show 2 < 10 by decide), hW.out⟩
      | 3, _ =>
        obtain rfl := Option.some.inj ho
        have l2 : L 2 = true := dep_of hd (n := 2) (by decide)
        obtain rfl := Eq.symm (hF.out 2 l2 : x2 = _)
        have cc := Lib.hid (c1.out W)
        clear hd ho hi hLi l2
        go_simp
        go_at_call 113
        refine cc.out.mono ?_
        rintro r w3 ⟨rfl, hb3⟩
        exact hK.out _ _ ⟨x0, x1, _, _, x4, x5, x6, x7, x8, x9, rfl, inv_step (i := 3) (x' := .string y1) hF.out rfl (show 3 < 10 by decide), hW.out.trans (hb3.mono hW.out.size)⟩
      | 4, _ =>
        obtain rfl := Option.some.inj ho
        have l0 : L 0 = true := dep_of hd (n := 0) (by decide)
        obtain rfl := Eq.symm (hF.out 0 l0 : x0 = _)
        have l3 : L 3 = true := dep_of hd (n := 3) (by decide)
        obtain rfl := Eq.symm (hF.out 3 l3 : x3 = _)
        have zz1 := hz1
        have zz2 := hz2
        have zz3 := hz3
        clear hd ho hi hLi l0 l3
        go_simp
        exact hK.out _ _ ⟨_, x1, x2, _, _, x5, x6, x7, x8, x9, rfl, inv_step (i := 4) (x' := .string (tg ++ y1)) hF.out rfl (show 4 < 10 by decide), hW.out⟩
      | 5, _ =>
        obtain rfl := Option.some.inj ho
        clear hd ho hi hLi
        go_simp
        exact hK.out _ _ ⟨x0, x1, x2, x3, x4, _, x6, x7, x8, x9, rfl, inv_step (i := 5) (x' := .pointer (some ⟨w.heap.size, 2, none⟩)) hF.out rfl (show 5 < 10 by decide), hW.out⟩
      | 6, _ =>
        obtain rfl := Option.some.inj ho
        have l5 : L 5 = true := dep_of hd (n := 5) (by decide)
        obtain rfl := Eq.symm (hF.out 5 l5 : x5 = _)
        have hcc := (hW.out.cell (p := ⟨w.heap.size, 2, none⟩) hlt1.out).trans d2
        clear hd ho hi hLi l5
        go_simp
        exact hK.out _ _ ⟨x0, x1, x2, x3, x4, _, _, x7, x8, x9, rfl, inv_step (i := 6) (x' := .int .i64 b) hF.out rfl (show 6 < 10 by decide), hW.out⟩
      | 7, _ =>
        obtain rfl := Option.some.inj ho
        have l6 : L 6 = true := dep_of hd (n := 6) (by decide)
        obtain rfl := Eq.symm (hF.out 6 l6 : x6 = _)
        have l3 : L 3 = true := dep_of hd (n := 3) (by decide)
        obtain rfl := Eq.symm (hF.out 3 l3 : x3 = _)
        have cc := Lib.hid (c2.out W)
        clear hd ho hi hLi l6 l3
        go_simp
        go_at_call 113
        refine cc.out.mono ?_
        rintro r w3 ⟨rfl, hb3⟩
        exact hK.out _ _ ⟨x0, x1, x2, _, x4, x5, _, _, x8, x9, rfl, inv_step (i := 7) (x' := .string y2) hF.out rfl (show 7 < 10 by decide), hW.out.trans (hb3.mono hW.out.size)⟩
      | 8, _ =>
        obtain rfl := Option.some.inj ho
        have l4 : L 4 = true := dep_of hd (n := 4) (by decide)
        obtain rfl := Eq.symm (hF.out 4 l4 : x4 = _)
        have l7 : L 7 = true := dep_of hd (n := 7) (by decide)
        obtain rfl := Eq.symm (hF.out 7 l7 : x7 = _)
        have zz1 := hz1
        have zz2 := hz2
        have zz3 := hz3
        clear hd ho hi hLi l4 l7
        go_simp
        exact hK.out _ _ ⟨x0, x1, x2, x3, _, x5, x6, _, _, x9, rfl, inv_step (i := 8) (x' := .string (tg ++ y1 ++ y2)) hF.out rfl (show 8 < 10 by decide), hW.out⟩
      | 9, _ =>
        obtain rfl := Option.some.inj ho
        have l8 : L 8 = true := dep_of hd (n := 8) (by decide)
        obtain rfl := Eq.symm (hF.out 8 l8 : x8 = _)
        clear hd ho hi hLi l8
        go_simp
        exact hK.out _ _ ⟨x0, x1, x2, x3, x4, x5, x6, x7, _, _, rfl, inv_step (i := 9) (x' := .string (tg ++ y1 ++ y2)) hF.out rfl (show 9 < 10 by decide), hW.out⟩
    case hdone =>
      rintro L ac W2 ⟨x0, x1, x2, x3, x4, x5, x6, x7, x8, x9, rfl, hF, hW⟩ hall
      obtain rfl := Eq.symm (hF 0 (hall 0 (show 0 < 10 by decide)) : x0 = _)
      obtain rfl := Eq.symm (hF 1 (hall 1 (show 1 < 10 by decide)) : x1 = _)
      obtain rfl := Eq.symm (hF 2 (hall 2 (show 2 < 10 by decide)) : x2 = _)
      obtain rfl := Eq.symm (hF 3 (hall 3 (show 3 < 10 by decide)) : x3 = _)
      obtain rfl := Eq.symm (hF 4 (hall 4 (show 4 < 10 by decide)) : x4 = _)
      obtain rfl := Eq.symm (hF 5 (hall 5 (show 5 < 10 by decide)) : x5 = _)
      obtain rfl := Eq.symm (hF 6 (hall 6 (show 6 < 10 by decide)) : x6 = _)
      obtain rfl := Eq.symm (hF 7 (hall 7 (show 7 < 10 by decide)) : x7 = _)
      obtain rfl := Eq.symm (hF 8 (hall 8 (show 8 < 10 by decide)) : x8 = _)
      obtain rfl := Eq.symm (hF 9 (hall 9 (show 9 < 10 by decide)) : x9 = _)
      dsimp only
      clear hF hall
      go_wp2_with fail
      go_ret
      exact ⟨by first | rfl | (rw [← hf.out]; rfl), hw1.out.trans (hW.mono hw1.out.size)⟩
  · obtain ⟨rfl, ha, rfl, rfl, rfl⟩ := hok
    have c1 := fun W => cNum_any a W (by omega)
    unfold TxR at c1 ⊢
    have hf := Lib.hid (hout.out (u32 a) _ (by simp [hd]) rfl)
    have hz2 := bs_size (u32 a)
    rw [u32_len] at hz2
    generalize bs (u32 a) = y1 at *
    generalize bs [] = e0 at *
    replace c1 := Lib.hid c1
    go_wp2_with (go_at_call 113; refine (c1.out _).mono ?_; rintro r w2 ⟨rfl, hb2⟩)
    go_ret
    exact ⟨by first | rfl | (rw [← hf.out]; rfl), hw1.out.trans (hb2.mono hw1.out.size)⟩
  · obtain ⟨rfl, rfl, rfl, rfl, rfl⟩ := hok
    unfold TxR
    have hf := Lib.hid (hres0.out (by simp [hd]))
    generalize bs [] = e0 at *
    go_wp2_with fail
    go_ret
    exact ⟨by first | rfl | (rw [← hf.out]; rfl), hw1.out⟩
  · obtain ⟨rfl, rfl, rfl, hs1, hs2, hm⟩ := hok
    have c1 := fun W => cText_any s W (by omega)
    have c2 := fun W => cNum_any m W (by omega)
    unfold TxR at c1 c2 ⊢
    have hf := hout.out ((u32 s.length ++ s) ++ u32 m) _ (by simp [hd]) rfl
    rw [← bs_add, ← ByteArray.append_assoc] at hf
    have hz2 := bs_size (u32 s.length ++ s)
    have hz3 := bs_size (u32 m)
    rw [List.length_append, u32_len] at hz2
    rw [u32_len] at hz3
    replace hz2 : (bs (u32 s.length ++ s)).size ≤ 3000 := by omega
    replace hf := Lib.hid hf
    generalize bs (u32 s.length ++ s) = y1 at *
    generalize bs (u32 m) = y2 at *
    generalize bs s = g at *
    replace c1 := Lib.hid c1
    replace c2 := Lib.hid c2
    go_upto_region 11 with fail
    refine region_inv (ICs (fun x0 x1 x2 x3 x4 x5 x6 x7 x8 x9 x10 => #[.agg #[.int .i64 ((5 : Nat) : Int), .int .i64 ((0 : Nat) : Int), .int .i64 ((0 : Nat) : Int), .string g, .slice A m c], .pointer (some ⟨w.heap.size, 0, none⟩), x10, .string tg, .pointer (some ⟨w.heap.size, 0, none⟩), .int .i64 ((5 : Nat) : Int), .int .i64 (240 + ((5 : Nat) : Int)), .int .u8 (240 + ((5 : Nat) : Int)), .slice (some ⟨w.heap.size + 1, 0, none⟩) 1 1, .string tg, .pointer (some ⟨w.heap.size, 0, none⟩), .int .i64 5, .bool false, .bool false, .bool false, undef, undef, undef, undef, undef, .bool false, .bool false, undef, undef, undef, undef, undef, undef, undef, undef, undef, .bool false, .bool false, undef, undef, undef, undef, undef, .bool true, .bool true, x0, x1, x2, x3, x4, x5, x6, x7, x8, x9, undef, undef, undef, undef, undef, undef, undef, undef, undef, undef, undef, undef, undef, undef, undef, undef, undef, undef, undef, undef, undef, undef, undef, undef, undef]) w.heap.size m A c tg g y1 y2 (fun L W => Below w1.heap.size w1 W)) ?hlt ?hstep ?hdone rfl (by kernel_rfl) ?start
    case start => exact ⟨undef, undef, undef, undef, undef, undef, undef, undef, undef, undef, .string ⟨#[]⟩, rfl, inv_start (n := 11) (fun _ => trivial), drewN_below 1⟩
    case hlt =>
      intro i o ho
      have hi := (Array.getElem?_eq_some_iff.1 ho).1
      match i, hi with
      | 0, _ => obtain rfl := Option.some.inj ho; decide
      | 1, _ => obtain rfl := Option.some.inj ho; decide
      | 2, _ => obtain rfl := Option.some.inj ho; decide
      | 3, _ => obtain rfl := Option.some.inj ho; decide
      | 4, _ => obtain rfl := Option.some.inj ho; decide
      | 5, _ => obtain rfl := Option.some.inj ho; decide
      | 6, _ => obtain rfl := Option.some.inj ho; decide
      | 7, _ => obtain rfl := Option.some.inj ho; decide
      | 8, _ => obtain rfl := Option.some.inj ho; decide
      | 9, _ => obtain rfl := Option.some.inj ho; decide
      | 10, _ => obtain rfl := Option.some.inj ho; decide
    case hstep =>
      rintro L ac W i o ⟨x0, x1, x2, x3, x4, x5, x6, x7, x8, x9, x10, rfl, hF, hW⟩ ho hLi hd K hK
      have hF := Lib.hid hF
      have hW := Lib.hid hW
      have hK := Lib.hid hK
      have hi := (Array.getElem?_eq_some_iff.1 ho).1
      match i, hi with
      | 0, _ =>
        obtain rfl := Option.some.inj ho
        clear hd ho hi hLi
        go_simp
        exact hK.out _ _ ⟨_, x1, x2, x3, x4, x5, x6, x7, x8, x9, x10, rfl, inv_step (i := 0) (x' := .string tg) hF.out rfl (show 0 < 11 by decide), hW.out⟩
      | 1, _ =>
        obtain rfl := Option.some.inj ho
        clear hd ho hi hLi
        go_simp
        exact hK.out _ _ ⟨x0, _, x2, x3, x4, x5, x6, x7, x8, x9, x10, rfl, inv_step (i := 1) (x' := .pointer (some ⟨w.heap.size, 3, none⟩)) hF.out rfl (show 1 < 11 by decide), hW.out⟩
      | 2, _ =>
        obtain rfl := Option.some.inj ho
        have l1 : L 1 = true := dep_of hd (n := 1) (by decide)
        obtain rfl := Eq.symm (hF.out 1 l1 : x1 = _)
        have hcc := (hW.out.cell (p := ⟨w.heap.size, 3, none⟩) hlt1.out).trans d3
        clear hd ho hi hLi l1
        go_simp
        exact hK.out _ _ ⟨x0, _, _, x3, x4, x5, x6, x7, x8, x9, x10, rfl, inv_step (i := 2) (x' := .string g) hF.out rfl (show 2 < 11 by decide), hW.out⟩
      | 3, _ =>
        obtain rfl := Option.some.inj ho
        have l2 : L 2 = true := dep_of hd (n := 2) (by decide)
        obtain rfl := Eq.symm (hF.out 2 l2 : x2 = _)
        have cc := Lib.hid (c1.out W)
        clear hd ho hi hLi l2
        go_simp
        go_at_call 112
        refine cc.out.mono ?_
        rintro r w3 ⟨rfl, hb3⟩
        exact hK.out _ _ ⟨x0, x1, _, _, x4, x5, x6, x7, x8, x9, x10, rfl, inv_step (i := 3) (x' := .string y1) hF.out rfl (show 3 < 11 by decide), hW.out.trans (hb3.mono hW.out.size)⟩
      | 4, _ =>
        obtain rfl := Option.some.inj ho
        have l0 : L 0 = true := dep_of hd (n := 0) (by decide)
        obtain rfl := Eq.symm (hF.out 0 l0 : x0 = _)
        have l3 : L 3 = true := dep_of hd (n := 3) (by decide)
        obtain rfl := Eq.symm (hF.out 3 l3 : x3 = _)
        have zz4 : ¬ (9223372036854775807 < 1 + y1.size) := by omega
        have zz5 : ¬ (9223372036854775807 < 1 + y1.size + 4) := by omega
        clear hd ho hi hLi l0 l3
        go_simp
        exact hK.out _ _ ⟨_, x1, x2, _, _, x5, x6, x7, x8, x9, x10, rfl, inv_step (i := 4) (x' := .string (tg ++ y1)) hF.out rfl (show 4 < 11 by decide), hW.out⟩
      | 5, _ =>
        obtain rfl := Option.some.inj ho
        clear hd ho hi hLi
        go_simp
        exact hK.out _ _ ⟨x0, x1, x2, x3, x4, _, x6, x7, x8, x9, x10, rfl, inv_step (i := 5) (x' := .pointer (some ⟨w.heap.size, 4, none⟩)) hF.out rfl (show 5 < 11 by decide), hW.out⟩
      | 6, _ =>
        obtain rfl := Option.some.inj ho
        have l5 : L 5 = true := dep_of hd (n := 5) (by decide)
        obtain rfl := Eq.symm (hF.out 5 l5 : x5 = _)
        have hcc := (hW.out.cell (p := ⟨w.heap.size, 4, none⟩) hlt1.out).trans d4
        clear hd ho hi hLi l5
        go_simp
        exact hK.out _ _ ⟨x0, x1, x2, x3, x4, _, _, x7, x8, x9, x10, rfl, inv_step (i := 6) (x' := .slice A m c) hF.out rfl (show 6 < 11 by decide), hW.out⟩
      | 7, _ =>
        obtain rfl := Option.some.inj ho
        have l6 : L 6 = true := dep_of hd (n := 6) (by decide)
        obtain rfl := Eq.symm (hF.out 6 l6 : x6 = _)
        clear hd ho hi hLi l6
        go_simp
        exact hK.out _ _ ⟨x0, x1, x2, x3, x4, x5, _, _, x8, x9, x10, rfl, inv_step (i := 7) (x' := .int .i64 m) hF.out rfl (show 7 < 11 by decide), hW.out⟩
      | 8, _ =>
        obtain rfl := Option.some.inj ho
        have l7 : L 7 = true := dep_of hd (n := 7) (by decide)
        obtain rfl := Eq.symm (hF.out 7 l7 : x7 = _)
        have l3 : L 3 = true := dep_of hd (n := 3) (by decide)
        obtain rfl := Eq.symm (hF.out 3 l3 : x3 = _)
        have cc := Lib.hid (c2.out W)
        clear hd ho hi hLi l7 l3
        go_simp
        go_at_call 113
        refine cc.out.mono ?_
        rintro r w3 ⟨rfl, hb3⟩
        exact hK.out _ _ ⟨x0, x1, x2, _, x4, x5, x6, _, _, x9, x10, rfl, inv_step (i := 8) (x' := .string y2) hF.out rfl (show 8 < 11 by decide), hW.out.trans (hb3.mono hW.out.size)⟩
      | 9, _ =>
        obtain rfl := Option.some.inj ho
        have l4 : L 4 = true := dep_of hd (n := 4) (by decide)
        obtain rfl := Eq.symm (hF.out 4 l4 : x4 = _)
        have l8 : L 8 = true := dep_of hd (n := 8) (by decide)
        obtain rfl := Eq.symm (hF.out 8 l8 : x8 = _)
        have zz4 : ¬ (9223372036854775807 < 1 + y1.size) := by omega
        have zz5 : ¬ (9223372036854775807 < 1 + y1.size + 4) := by omega
        clear hd ho hi hLi l4 l8
        go_simp
        exact hK.out _ _ ⟨x0, x1, x2, x3, _, x5, x6, x7, _, _, x10, rfl, inv_step (i := 9) (x' := .string (tg ++ y1 ++ y2)) hF.out rfl (show 9 < 11 by decide), hW.out⟩
      | 10, _ =>
        obtain rfl := Option.some.inj ho
        have l9 : L 9 = true := dep_of hd (n := 9) (by decide)
        obtain rfl := Eq.symm (hF.out 9 l9 : x9 = _)
        clear hd ho hi hLi l9
        go_simp
        exact hK.out _ _ ⟨x0, x1, x2, x3, x4, x5, x6, x7, x8, _, _, rfl, inv_step (i := 10) (x' := .string (tg ++ y1 ++ y2)) hF.out rfl (show 10 < 11 by decide), hW.out⟩
    case hdone =>
      rintro L ac W2 ⟨x0, x1, x2, x3, x4, x5, x6, x7, x8, x9, x10, rfl, hF, hW⟩ hall
      obtain rfl := Eq.symm (hF 0 (hall 0 (show 0 < 11 by decide)) : x0 = _)
      obtain rfl := Eq.symm (hF 1 (hall 1 (show 1 < 11 by decide)) : x1 = _)
      obtain rfl := Eq.symm (hF 2 (hall 2 (show 2 < 11 by decide)) : x2 = _)
      obtain rfl := Eq.symm (hF 3 (hall 3 (show 3 < 11 by decide)) : x3 = _)
      obtain rfl := Eq.symm (hF 4 (hall 4 (show 4 < 11 by decide)) : x4 = _)
      obtain rfl := Eq.symm (hF 5 (hall 5 (show 5 < 11 by decide)) : x5 = _)
      obtain rfl := Eq.symm (hF 6 (hall 6 (show 6 < 11 by decide)) : x6 = _)
      obtain rfl := Eq.symm (hF 7 (hall 7 (show 7 < 11 by decide)) : x7 = _)
      obtain rfl := Eq.symm (hF 8 (hall 8 (show 8 < 11 by decide)) : x8 = _)
      obtain rfl := Eq.symm (hF 9 (hall 9 (show 9 < 11 by decide)) : x9 = _)
      obtain rfl := Eq.symm (hF 10 (hall 10 (show 10 < 11 by decide)) : x10 = _)
      dsimp only
      clear hF hall
      go_wp2_with fail
      go_ret
      exact ⟨by first | rfl | (rw [← hf.out]; rfl), hw1.out.trans (hW.mono hw1.out.size)⟩
  · obtain ⟨rfl, rfl, rfl, hs1, hs, rfl⟩ := hok
    have cT := fun W => cText_any s W (by omega)
    unfold TxR at cT ⊢
    have hf := Lib.hid (hout.out (u32 s.length ++ s) _ (by simp [hd]) rfl)
    have hz2 := bs_size (u32 s.length ++ s)
    rw [List.length_append, u32_len] at hz2
    have hz3 : (bs (u32 s.length ++ s)).size ≤ 200000 := by omega
    clear hz2
    generalize bs (u32 s.length ++ s) = x2 at *
    generalize bs s = x1 at *
    replace cT := Lib.hid cT
    go_wp2_with (go_at_call 112; refine (cT.out _).mono ?_; rintro r w2 ⟨rfl, hb2⟩)
    go_ret
    exact ⟨by first | rfl | (rw [← hf.out]; rfl), hw1.out.trans (hb2.mono hw1.out.size)⟩
  · obtain ⟨rfl, rfl, rfl, rfl, rfl⟩ := hok
    unfold TxR
    have hf := Lib.hid (hres0.out (by simp [hd]))
    generalize bs [] = e0 at *
    go_wp2_with fail
    go_ret
    exact ⟨by first | rfl | (rw [← hf.out]; rfl), hw1.out⟩
  · obtain ⟨rfl, rfl, hb, rfl, rfl⟩ := hok
    have kc := conv_nums w1 [b]
    simp only [List.map_cons, List.map_nil, List.length_cons, List.length_nil, Nat.zero_add] at kc
    have hf := Lib.hid (hout.out [UInt8.ofNat b] _ (by simp [hd]) rfl)
    have hz2 := bs_size [UInt8.ofNat b]
    simp only [List.length_singleton] at hz2
    generalize bs [UInt8.ofNat b] = y1 at *
    generalize bs [] = e0 at *
    have hB2 := Lib.hid (hw1.out.alloc hw1.out.size (.cells #[.int .u8 b] 5))
    unfold TxR
    go_wp2_with fail
    go_ret
    exact ⟨by first | rfl | (rw [← hf.out]; rfl), hB2.out⟩
  · obtain ⟨rfl, rfl, hb, rfl, rfl⟩ := hok
    have c1 := fun W => cNum_any b W (by omega)
    unfold TxR at c1 ⊢
    have hf := Lib.hid (hout.out (u32 b) _ (by simp [hd]) rfl)
    have hz2 := bs_size (u32 b)
    rw [u32_len] at hz2
    generalize bs (u32 b) = y1 at *
    generalize bs [] = e0 at *
    replace c1 := Lib.hid c1
    go_wp2_with (go_at_call 113; refine (c1.out _).mono ?_; rintro r w2 ⟨rfl, hb2⟩)
    go_ret
    exact ⟨by first | rfl | (rw [← hf.out]; rfl), hw1.out.trans (hb2.mono hw1.out.size)⟩
  · obtain ⟨rfl, rfl, rfl, rfl, hm⟩ := hok
    have c1 := fun W => cNum_any m W (by omega)
    unfold TxR at c1 ⊢
    have hf := Lib.hid (hout.out (u32 m) _ (by simp [hd]) rfl)
    have hz2 := bs_size (u32 m)
    rw [u32_len] at hz2
    generalize bs (u32 m) = y1 at *
    generalize bs [] = e0 at *
    replace c1 := Lib.hid c1
    go_wp2_with (go_at_call 113; refine (c1.out _).mono ?_; rintro r w2 ⟨rfl, hb2⟩)
    go_ret
    exact ⟨by first | rfl | (rw [← hf.out]; rfl), hw1.out.trans (hb2.mono hw1.out.size)⟩
end Go.Proofs.YtphnakdgpilcmaaGreatDoor
