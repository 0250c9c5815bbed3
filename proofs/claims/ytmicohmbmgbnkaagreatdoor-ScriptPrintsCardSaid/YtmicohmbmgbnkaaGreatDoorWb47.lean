/- The walk of ScriptPrints. -/
import Derived.Test.YtmicohmbmgbnkaaGreatDoorWb45
import Derived.Test.YtmicohmbmgbnkaaGreatDoorWb46
namespace Go.Proofs.YtmicohmbmgbnkaaGreatDoor
open Go Go.RowKit Go.Shelf
open Go.Lib (itoa)

set_option maxRecDepth 100000 in
set_option maxHeartbeats 8000000 in
theorem law_scriptPrints (SL : List (Int × List PV × List Value)) (A : Option Addr) (n c : Nat) (V : World) (E : EnvS V) (G : ETy V) (H : Rws V 29 A n (SL.map fun s => s.2.2)) (hI : ∀ s ∈ SL, StI V s.1 s.2.1 s.2.2) (hn63 : n ≤ 9223372036854775807) :
    Calls Tryz.prog 7 #[.slice A n c] V fun r w' => r = .returned (.bool true) ∧ Below V.heap.size V w' := by
  have hnl : SL.length = n := by have := H.1; simpa using this
  have cA := Lib.hid (fun W' (h : Below V.heap.size V W') => awake35_any W' (E.keep h E.size))
  have cF := Lib.hid (few30_any SL A n c V H hI hn63)
  have hIk := Lib.hid hI
  have hEk := Lib.hid E
  have hHk := Lib.hid H
  have hGk := Lib.hid (fun W' (h : Below V.heap.size V W') => G.keep h)
  have hnk := Lib.hid hnl
  clear E G H hI hnl
  go_enter Tryz.func7, Tryz.ntmps7
  go_upto_region 3 with (first
    | (go_at_call 18; (with_reducible refine cF.out.mono ?_); rintro r w3 ⟨b, rfl, hb3, hf⟩
       have hB3 := Lib.hid hb3
       replace hf := Lib.hid hf
       have hd := Lib.hid (cA.out w3 hb3)
       clear hb3
       cases b)
    | (go_at_call 9; (with_reducible refine hd.out.mono ?_); rintro r w4 ⟨rfl, hb4⟩; have hB4 := Lib.hid (hB3.out.trans (hb4.mono hB3.out.size)); clear hb4))
  · go_ret
    exact ⟨rfl, hB4.out⟩
  · obtain ⟨hn40, hFS⟩ := hf.out (by trivial)
    obtain ⟨m, p, hmn, hg, hbad⟩ := lines_cases V SL fun s hs => ln_cases V s hEk.out (hIk.out s hs) (hFS s hs)
    rw [hnk.out] at hmn hbad
    have h1c : ∀ s ∈ SL, s.2.2.toArray.all (·.oneCell') = true := fun s hs => (hIk.out s hs).s.one
    have cP := print_any SL A n c V w3 hEk.out hHk.out h1c (by omega) m hmn (fun j s h1 h2 => (hg j s h1 h2).r) p (fun h => by obtain ⟨s, h1, h2⟩ := (hbad h).2; exact ⟨s, h1, h2.p⟩) (lens_40 hnk.out hn40 hg) hB3.out
    have cR := fun W' (h : Below V.heap.size V W') => rprint_any SL A n c V W' hHk.out hn40 m hmn hg p (fun h => (hbad h).2) h
    rcases Nat.lt_or_ge m n with hlt | hge
    · have hp10 := (hbad hlt).1
      have hdl := itoa_len20 (i64_small (m := m) (by omega))
      have hsz : (atR m p).size ≤ 1000000 := by
        rw [atR_eq rfl, spS_one]
        simp only [ByteArray.size_append]
        rw [bs_size]
        have h1 : (⟨#[115, 99, 114, 105, 112, 116, 32]⟩ : ByteArray).size = 7 := rfl
        have h2 : (⟨#[32]⟩ : ByteArray).size = 1 := rfl
        omega
      have cT := fun W' e (h : Below V.heap.size V W') (hm : isErr W' (some 6) [scriptS, bs (itoa ((m : Int) + 1)), p] e) => told_any 6 [scriptS, bs (itoa ((m : Int) + 1)), p] e W' (atR m p) (by decide) rfl (by show 3 ≤ 20; decide) hsz hm (hGk.out W' h)
      have cP' := cP.mono fun (r : Ending) (w' : World) h => h.2 hlt
      have cR' := fun W' h => (cR W' h).mono fun (r : Ending) (w' : World) h => h.2 hlt
      clear cP cR hg hbad hFS hp10 hdl hsz h1c hf hIk hHk hn40 hmn
      unfold ErrOut at cP'
      generalize [scriptS, bs (itoa ((m : Int) + 1)), p] = pp at *
      generalize atR m p = y at *
      replace cP' := Lib.hid cP'
      replace cR' := Lib.hid cR'
      replace cT := Lib.hid cT
      go_upto_region 4 with (first
        | (go_at_call 25; (with_reducible refine cP'.out.mono ?_); rintro r w4 ⟨e, rfl, hm4, hb4⟩
           obtain ⟨T9, u9, rfl⟩ := isErr_some hm4
           have hB4 := Lib.hid (hB3.out.trans (hb4.mono hB3.out.size))
           replace hm4 := Lib.hid hm4
           have cR4 := Lib.hid (cR'.out w4 hB4.out)
           clear hb4))
      go_upto_region 5 with (first
        | (go_at_call 26; (with_reducible refine cR4.out.mono ?_); rintro r w5 ⟨rfl, hb5⟩
           have hB5 := hB4.out.trans (hb5.mono hB4.out.size)
           have hz5 := heap_new w5 (.cells erZ 53)
           have hE5 : Row ((w5.alloc (.cells erZ 53)).setRow w5.heap.size [.int .i64 6, .string y].toArray) w5.heap.size 53 [.int .i64 6, .string y] := Row.setRow (show Row (w5.alloc (.cells erZ 53)) w5.heap.size 53 erL from heap_new w5 _) _
           have hb6 := below_setRow (below_new w5 (.cells erZ 53)) (Nat.le_refl _) [.int .i64 6, .string y].toArray
           have hB6 := Lib.hid (hB5.trans (hb6.mono hB5.size))
           have hm6 := Lib.hid (hm4.out.keep (hb5.trans (hb6.mono hb5.size)))
           have hc6 := hE5.cell (off := 0) (v := .int .i64 6) rfl
           clear hb5 hb6 hB5)
        | (refine wpList_alloc_row 53 rfl rfl erZ er_zero ?_)
        | (refine wpList_store_at 53 _ _ rfl rfl w5.heap.size #[.int .i64 6, .string y] rfl rfl 53 erZ hz5 (by kernel_rfl) rfl (by simp [Value.oneCell']) ?_))
      generalize (w5.alloc (.cells erZ 53)).setRow w5.heap.size [.int .i64 6, .string y].toArray = w6 at *
      generalize w5.heap.size = p6 at *
      have hd6 := Lib.hid (cA.out w6 hB6.out)
      have hpl6 := hE5.lt
      clear hz5
      go_wp2_with (first
        | (go_at_call 9; (with_reducible refine hd6.out.mono ?_); rintro r w7 ⟨rfl, hb7⟩
           have hB7 := Lib.hid (hB6.out.trans (hb7.mono hB6.out.size))
           have q7 := (hE5.keep hb7).range
           have cT7 := Lib.hid (cT.out w7 _ hB7.out (hm6.out.keep hb7))
           clear hb7)
        | (refine wpList_load_at 53 _ rfl rfl p6 0 rfl [.int .i64 6, .string y] _ q7 Tryz.underlying53 rfl (by kernel_rfl) ?_)
        | (go_at_call 21; (with_reducible refine cT7.out.mono ?_); rintro r w8 ⟨rfl, hb8⟩; have hB8 := Lib.hid (hB7.out.trans (hb8.mono hB7.out.size)); clear hb8))
      go_ret
      exact ⟨rfl, hB8.out⟩
    · obtain rfl : m = n := by omega
      have hL : ∀ s ∈ SL, LnOk V s := fun s hs => by
        obtain ⟨j, hj, e⟩ := List.getElem_of_mem hs
        exact hg j s (by have := hnk.out; omega) (by rw [← e]; exact List.getElem?_eq_getElem hj)
      have cP' := cP.mono fun (r : Ending) (w' : World) h => h.1 rfl
      have cR' := fun W' h => (cR W' h).mono fun (r : Ending) (w' : World) h => h.1 rfl
      have cQ := fun W' (h : Below V.heap.size V W') => parse_text SL V W' (hEk.out.keep h hEk.out.size) hL (by have := hnk.out; omega)
      rw [hnk.out] at cQ
      have cS := fun W' (A' : Option Addr) (c' : Nat) (rows : List (Int × List PV × List Value)) (h : Below V.heap.size V W') (hr : Rws W' 29 A' m (rows.map fun s => s.2.2)) (hst : ∀ (j : Nat) s t, SL[j]? = some s → rows[j]? = some t → StC W' s.1 s.2.1 t.2.2) =>
        same_all (SL.map fun s => s.2.2) (rows.map fun s => s.2.2) A A' m c c' W' (hHk.out.keep h) hr (fun j s t h1 h2 W9 hb9 => by
          obtain ⟨x, hx, rfl⟩ := map_at h1
          obtain ⟨z, hz, rfl⟩ := map_at h2
          have hxm := List.mem_of_getElem? hx
          obtain ⟨k, e, hk9⟩ := (hL x hxm).k
          have hF := hFS x hxm
          have hgl : ∀ l, x.2.1[18]? = some (.grants l) → ∀ g ∈ l, g.user.length ≤ 281474976710656 := fun l h g hg => by have := (hF.c.gr l h).2 g hg; omega
          have hol : ∀ l, x.2.1[3]? = some (.ops l) → ∀ o ∈ l, o.s.length ≤ 281474976710656 := fun l h o ho => by have := (hF.op l h).2 o ho; omega
          have hT := (hst j x z hx hz).keep hb9
          have hS := (hIk.out x hxm).s.keep (h.trans (hb9.mono h.size))
          exact same35_any x.2.2 z.2.2 x.1 x.2.1 W9 hS hT (hL x hxm).ok hgl hol) (by omega)
      clear cP cR hg hbad h1c hf hmn hge
      generalize bs (textX (SL.map lnT)) = yl at *
      replace cP' := Lib.hid cP'
      replace cR' := Lib.hid cR'
      replace cQ := Lib.hid cQ
      replace cS := Lib.hid cS
      replace hL := Lib.hid hL
      replace hFS := Lib.hid hFS
      go_upto_region 4 with (first
        | (go_at_call 25; (with_reducible refine cP'.out.mono ?_); rintro r w4 ⟨rfl, hb4⟩
           have hB4 := Lib.hid (hB3.out.trans (hb4.mono hB3.out.size))
           have cR4 := Lib.hid (cR'.out w4 hB4.out)
           clear hb4))
      go_upto_region 5 with (first
        | (go_at_call 26; (with_reducible refine cR4.out.mono ?_); rintro r w5 ⟨rfl, hb5⟩
           have hB5 := hB4.out.trans (hb5.mono hB4.out.size)
           have hz5 := heap_new w5 (.cells erZ 53)
           have hE5 : Row ((w5.alloc (.cells erZ 53)).setRow w5.heap.size erL.toArray) w5.heap.size 53 erL := Row.setRow (show Row (w5.alloc (.cells erZ 53)) w5.heap.size 53 erL from heap_new w5 _) _
           have hb6 := below_setRow (below_new w5 (.cells erZ 53)) (Nat.le_refl _) erL.toArray
           have hB6 := Lib.hid (hB5.trans (hb6.mono hB5.size))
           have hc6 := hE5.cell (off := 0) (v := .int .i64 0) rfl
           clear hb5 hb6 hB5)
        | (refine wpList_alloc_row 53 rfl rfl erZ er_zero ?_)
        | (refine wpList_store_at 53 _ _ rfl rfl w5.heap.size erL.toArray rfl rfl 53 erZ hz5 (by kernel_rfl) rfl (by decide +kernel) ?_))
      generalize (w5.alloc (.cells erZ 53)).setRow w5.heap.size erL.toArray = w6 at *
      generalize w5.heap.size = p6 at *
      have cQ6 := Lib.hid (cQ.out w6 hB6.out)
      clear hz5 hE5
      go_upto_region 8 with (first
        | (go_at_call 27; (with_reducible refine cQ6.out.mono ?_); rintro r w7 ⟨A7, c7, rows, rfl, hr7, hst7, hb7⟩
           have hB7 := Lib.hid (hB6.out.trans (hb7.mono hB6.out.size))
           replace hr7 := Lib.hid hr7
           replace hst7 := Lib.hid hst7
           clear hb7))
      have hd7 := Lib.hid (cA.out w7 hB7.out)
      go_wp2_with (first
        | (go_at_call 9; (with_reducible refine hd7.out.mono ?_); rintro r w9 ⟨rfl, hb9⟩
           have hB9 := Lib.hid (hB7.out.trans (hb9.mono hB7.out.size))
           have cS9 := Lib.hid (cS.out w9 A7 c7 rows hB9.out (hr7.out.keep hb9) (fun j s t h1 h2 => (hst7.out j s t h1 h2).keep hb9))
           clear hb9)
        | (go_at_call 28; (with_reducible refine cS9.out.mono ?_); rintro r w10 ⟨rfl, hb10⟩; have hB10 := Lib.hid (hB9.out.trans (hb10.mono hB9.out.size)); clear hb10))
      go_ret
      exact ⟨by simp, hB10.out⟩
end Go.Proofs.YtmicohmbmgbnkaaGreatDoor
