/- A step as an argument: its cells, and its values. (printed by wip/gen_smf.py) -/
import Derived.Test.YtmicohmbmgbnkaaGreatDoorWb40
import Derived.WideShapes
namespace Go.Proofs.YtmicohmbmgbnkaaGreatDoor
open Go Go.RowKit Go.Shelf Go.ChangeShapes Go.WideShapes Go.Deep

def BigPV : PV → Prop
  | .text s => s.length ≤ 9223372036854775807
  | .texts l => ∀ s ∈ l, s.length ≤ 9223372036854775807
  | .ops l => ∀ o ∈ l, o.s.length ≤ 9223372036854775807
  | .grants l => (∀ g ∈ l, g.user.length ≤ 9223372036854775807) ∧ ∀ g ∈ l, I64 g.who
  | _ => True
section
variable {H : Type} {enc : TypeId × Value → H} {w : World} {base : Nat} {spare : Nat → Bool} {held : Bool} {fuel : Nat} {cs : List Value} {x : DataW H × List MemPlace}
theorem fld9 {P : Program} {t : TypeId} {fs : Array Field} (ht : P.underlying t = some (.struct fs)) (h : DataW.trod enc P w base spare held fuel t cs = some x) (i : Nat) (f : Field) (hf : fs[i]? = some f) :
    ∃ n y, DataW.trod enc P w base spare held n f.type ((cs.drop f.offset).take (P.cellsOf f.type)) = some y := by
  obtain ⟨xs, n, _, _, _, hxl, hfi⟩ := DataW.trod_struct ht h
  obtain ⟨y, hy⟩ : ∃ y, xs[i]? = some y := ⟨_, List.getElem?_eq_getElem (by rw [hxl]; exact (Array.getElem?_eq_some_iff.1 hf).1)⟩
  exact ⟨n, y, (hfi i f hf).trans hy⟩
theorem get_one {l : List Value} {o : Nat} {v : Value} (h : (l.drop o).take 1 = [v]) : l[o]? = some v := by
  have := congrArg (fun l : List Value => l[0]?) h
  simpa [List.getElem?_take, List.getElem?_drop] using this
theorem get_in {l : List Value} {a n o : Nat} {v : Value} (h : ((l.drop a).take n)[o]? = some v) : l[a + o]? = some v := by
  rw [List.getElem?_take] at h
  split at h
  · rwa [List.getElem?_drop] at h
  · cases h
theorem one_len {l : List Value} (h : l.length = 1) : ∃ v, l = [v] := by
  match l, h with
  | [v], _ => exact ⟨v, rfl⟩
theorem int_flat9 : flatDesc Tryz.prog 2 3 = some [.int .i64] := by kernel_rfl
theorem bool_flat9 : flatDesc Tryz.prog 2 4 = some [.bool] := by kernel_rfl
theorem leaf_int (h : DataW.trod enc Tryz.prog w base spare held fuel 3 cs = some x) : ∃ n, cs = [.int .i64 n] ∧ I64 n := by
  obtain ⟨hl, hc⟩ := flat_trod 2 _ _ fuel cs x int_flat9 h
  obtain ⟨v, rfl⟩ := one_len hl
  obtain ⟨n, rfl, h1, h2⟩ := hc 0 _ _ rfl rfl
  exact ⟨n, rfl, h1, h2⟩
theorem leaf_bool (h : DataW.trod enc Tryz.prog w base spare held fuel 4 cs = some x) : ∃ b, cs = [.bool b] := by
  obtain ⟨hl, hc⟩ := flat_trod 2 _ _ fuel cs x bool_flat9 h
  obtain ⟨v, rfl⟩ := one_len hl
  obtain ⟨n, rfl⟩ := hc 0 _ _ rfl rfl
  exact ⟨n, rfl⟩
theorem leaf_str (h : DataW.trod enc Tryz.prog w base spare held fuel 9 cs = some x) : ∃ s : List UInt8, cs = [.string (bs s)] ∧ s.length ≤ 9223372036854775807 := by
  obtain ⟨hl, hc⟩ := flat_trod 2 _ _ fuel cs x str_flat h
  obtain ⟨v, rfl⟩ := one_len hl
  obtain ⟨s, rfl, h1⟩ := hc 0 _ _ rfl rfl
  unfold maxLen at h1
  exact ⟨s.data.toList, by rw [bs_back], by rw [Array.length_toList]; show s.size ≤ _; omega⟩
theorem leaf_wish (h : DataW.trod enc Tryz.prog w base spare held fuel 39 cs = some x) : ∃ a b c : Nat, cs = [.int .u32 (a : Int), .int .u32 (b : Int), .int .u32 (c : Int)] ∧ a < 4294967296 ∧ b < 4294967296 ∧ c < 4294967296 := by
  obtain ⟨hl, hc⟩ := flat_trod 3 _ _ fuel cs x wish_ds h
  match cs, hl with
  | [u, v, z], _ =>
    obtain ⟨a, rfl, a1, a2⟩ := hc 0 _ _ rfl rfl
    obtain ⟨b, rfl, b1, b2⟩ := hc 1 _ _ rfl rfl
    obtain ⟨c, rfl, c1, c2⟩ := hc 2 _ _ rfl rfl
    have a1 : (0 : Int) ≤ a := a1
    have b1 : (0 : Int) ≤ b := b1
    have c1 : (0 : Int) ≤ c := c1
    have a2 : a ≤ 4294967295 := a2
    have b2 : b ≤ 4294967295 := b2
    have c2 : c ≤ 4294967295 := c2
    exact ⟨a.toNat, b.toNat, c.toNat, by rw [Int.toNat_of_nonneg a1, Int.toNat_of_nonneg b1, Int.toNat_of_nonneg c1], by omega, by omega, by omega⟩
theorem ints9 : ∀ (zs : List (List Value)), (∀ z ∈ zs, allOk [.int .i64] z) → ∃ l : List Int, zs = l.map iv ∧ ∀ n ∈ l, I64 n
  | [], _ => ⟨[], rfl, by simp⟩
  | z :: r, h => by
    obtain ⟨hl, hc⟩ := h z List.mem_cons_self
    obtain ⟨v, rfl⟩ := one_len hl
    obtain ⟨n, rfl, h1, h2⟩ := hc 0 _ _ rfl rfl
    obtain ⟨l, rfl, hi⟩ := ints9 r fun y hy => h y (List.mem_cons_of_mem _ hy)
    refine ⟨n :: l, rfl, fun m hm => ?_⟩
    rcases List.mem_cons.1 hm with rfl | hm
    · exact ⟨h1, h2⟩
    · exact hi m hm
theorem strs9 : ∀ (zs : List (List Value)), (∀ z ∈ zs, allOk strDs z) → ∃ l : List (List UInt8), zs = l.map (fun s => sv (bs s)) ∧ ∀ s ∈ l, s.length ≤ 9223372036854775807
  | [], _ => ⟨[], rfl, by simp⟩
  | z :: r, h => by
    obtain ⟨hl, hc⟩ := h z List.mem_cons_self
    obtain ⟨v, rfl⟩ := one_len hl
    obtain ⟨s, rfl, h1⟩ := hc 0 _ _ rfl rfl
    unfold maxLen at h1
    obtain ⟨l, rfl, hi⟩ := strs9 r fun y hy => h y (List.mem_cons_of_mem _ hy)
    refine ⟨s.data.toList :: l, by rw [List.map_cons, bs_back]; rfl, fun m hm => ?_⟩
    rcases List.mem_cons.1 hm with rfl | hm
    · rw [Array.length_toList]; show s.size ≤ _; omega
    · exact hi m hm
theorem grs9 : ∀ (zs : List (List Value)), (∀ z ∈ zs, allOk grDs9 z) → ∃ l : List GrX, zs = l.map GrX.row ∧ ∀ g ∈ l, g.user.length ≤ 9223372036854775807 ∧ I64 g.who
  | [], _ => ⟨[], rfl, by simp⟩
  | z :: r, h => by
    obtain ⟨hl, hc⟩ := h z List.mem_cons_self
    match z, hl with
    | [u, v], _ =>
      obtain ⟨s, rfl, h1⟩ := hc 0 _ _ rfl rfl
      obtain ⟨n, rfl, h2, h3⟩ := hc 1 _ _ rfl rfl
      unfold maxLen at h1
      obtain ⟨l, rfl, hi⟩ := grs9 r fun y hy => h y (List.mem_cons_of_mem _ hy)
      refine ⟨⟨s.data.toList, n⟩ :: l, by rw [List.map_cons]; unfold GrX.row; dsimp only; rw [bs_back], fun m hm => ?_⟩
      rcases List.mem_cons.1 hm with rfl | hm
      · exact ⟨by show s.data.toList.length ≤ _; rw [Array.length_toList]; show s.size ≤ _; omega, h2, h3⟩
      · exact hi m hm
theorem ops9 : ∀ (zs : List (List Value)), (∀ z ∈ zs, allOk opDs9 z) → ∃ l : List OpX, zs = l.map OpX.row ∧ ∀ o ∈ l, o.s.length ≤ 9223372036854775807 ∧ I64 o.a ∧ I64 o.b ∧ I64 o.c
  | [], _ => ⟨[], rfl, by simp⟩
  | z :: r, h => by
    obtain ⟨hl, hc⟩ := h z List.mem_cons_self
    match z, hl with
    | [v0, v1, v2, v3, v4], _ =>
      obtain ⟨k, rfl, _⟩ := hc 0 _ _ rfl rfl
      obtain ⟨a, rfl, a1, a2⟩ := hc 1 _ _ rfl rfl
      obtain ⟨b, rfl, b1, b2⟩ := hc 2 _ _ rfl rfl
      obtain ⟨c, rfl, c1, c2⟩ := hc 3 _ _ rfl rfl
      obtain ⟨s, rfl, h1⟩ := hc 4 _ _ rfl rfl
      unfold maxLen at h1
      obtain ⟨l, rfl, hi⟩ := ops9 r fun y hy => h y (List.mem_cons_of_mem _ hy)
      refine ⟨⟨k, a, b, c, s.data.toList⟩ :: l, by rw [List.map_cons]; unfold OpX.row; dsimp only; rw [bs_back], fun m hm => ?_⟩
      rcases List.mem_cons.1 hm with rfl | hm
      · exact ⟨by show s.data.toList.length ≤ _; rw [Array.length_toList]; show s.size ≤ _; omega, ⟨a1, a2⟩, ⟨b1, b2⟩, ⟨c1, c2⟩⟩
      · exact hi m hm
theorem step_fields (fs : Array Field) (hu : Tryz.prog.underlying 44 = some (.struct fs)) : (∃ f, fs[0]? = some f ∧ f.offset = 0 ∧ f.type = 3) ∧ (∃ f, fs[1]? = some f ∧ f.offset = 1 ∧ f.type = 3) ∧ (∃ f, fs[2]? = some f ∧ f.offset = 2 ∧ f.type = 41) ∧ (∃ f, fs[3]? = some f ∧ f.offset = 25 ∧ f.type = 3) ∧ (∃ f, fs[4]? = some f ∧ f.offset = 26 ∧ f.type = 9) ∧ (∃ f, fs[5]? = some f ∧ f.offset = 27 ∧ f.type = 42) ∧ (∃ f, fs[6]? = some f ∧ f.offset = 28 ∧ f.type = 37) := by
  have h := Tryz.underlying44
  rw [hu] at h
  injection h with h
  injection h with h
  subst h
  exact ⟨⟨_, rfl, rfl, rfl⟩, ⟨_, rfl, rfl, rfl⟩, ⟨_, rfl, rfl, rfl⟩, ⟨_, rfl, rfl, rfl⟩, ⟨_, rfl, rfl, rfl⟩, ⟨_, rfl, rfl, rfl⟩, ⟨_, rfl, rfl, rfl⟩⟩
theorem conf_fields (fs : Array Field) (hu : Tryz.prog.underlying 41 = some (.struct fs)) : (∃ f, fs[0]? = some f ∧ f.offset = 0 ∧ f.type = 4) ∧ (∃ f, fs[1]? = some f ∧ f.offset = 1 ∧ f.type = 9) ∧ (∃ f, fs[2]? = some f ∧ f.offset = 2 ∧ f.type = 9) ∧ (∃ f, fs[3]? = some f ∧ f.offset = 3 ∧ f.type = 35) ∧ (∃ f, fs[4]? = some f ∧ f.offset = 11 ∧ f.type = 27) ∧ (∃ f, fs[5]? = some f ∧ f.offset = 12 ∧ f.type = 3) ∧ (∃ f, fs[6]? = some f ∧ f.offset = 13 ∧ f.type = 36) ∧ (∃ f, fs[7]? = some f ∧ f.offset = 14 ∧ f.type = 3) ∧ (∃ f, fs[8]? = some f ∧ f.offset = 15 ∧ f.type = 3) ∧ (∃ f, fs[9]? = some f ∧ f.offset = 16 ∧ f.type = 9) ∧ (∃ f, fs[10]? = some f ∧ f.offset = 17 ∧ f.type = 37) ∧ (∃ f, fs[11]? = some f ∧ f.offset = 18 ∧ f.type = 4) ∧ (∃ f, fs[12]? = some f ∧ f.offset = 19 ∧ f.type = 4) ∧ (∃ f, fs[13]? = some f ∧ f.offset = 20 ∧ f.type = 39) := by
  have h := Tryz.underlying41
  rw [hu] at h
  injection h with h
  injection h with h
  subst h
  exact ⟨⟨_, rfl, rfl, rfl⟩, ⟨_, rfl, rfl, rfl⟩, ⟨_, rfl, rfl, rfl⟩, ⟨_, rfl, rfl, rfl⟩, ⟨_, rfl, rfl, rfl⟩, ⟨_, rfl, rfl, rfl⟩, ⟨_, rfl, rfl, rfl⟩, ⟨_, rfl, rfl, rfl⟩, ⟨_, rfl, rfl, rfl⟩, ⟨_, rfl, rfl, rfl⟩, ⟨_, rfl, rfl, rfl⟩, ⟨_, rfl, rfl, rfl⟩, ⟨_, rfl, rfl, rfl⟩, ⟨_, rfl, rfl, rfl⟩⟩
theorem cells9_0 : Tryz.prog.cellsOf 3 = 1 := by kernel_rfl
theorem cells9_1 : Tryz.prog.cellsOf 4 = 1 := by kernel_rfl
theorem cells9_2 : Tryz.prog.cellsOf 9 = 1 := by kernel_rfl
theorem cells9_3 : Tryz.prog.cellsOf 42 = 1 := by kernel_rfl
theorem cells9_4 : Tryz.prog.cellsOf 37 = 1 := by kernel_rfl
theorem cells9_5 : Tryz.prog.cellsOf 27 = 1 := by kernel_rfl
theorem cells9_6 : Tryz.prog.cellsOf 36 = 1 := by kernel_rfl
theorem cells9_7 : Tryz.prog.cellsOf 39 = 3 := by kernel_rfl
theorem cells9_8 : Tryz.prog.cellsOf 41 = 23 := by kernel_rfl
theorem cells9_9 : Tryz.prog.cellsOf 35 = 8 := by kernel_rfl
set_option maxRecDepth 100000 in
set_option maxHeartbeats 2000000 in
theorem st_of_trod (h : DataW.trod enc Tryz.prog w base spare held fuel 44 cs = some x) : ∃ kd vs, StC w kd vs cs ∧ TyVs keyT vs ∧ (∀ v ∈ vs, BigPV v) := by
  obtain ⟨fs, hu⟩ : ∃ fs, Tryz.prog.underlying 44 = some (.struct fs) := ⟨_, Tryz.underlying44⟩
  obtain ⟨fc, huc⟩ : ∃ fs, Tryz.prog.underlying 41 = some (.struct fs) := ⟨_, Tryz.underlying41⟩
  obtain ⟨fp, hup⟩ : ∃ fs, Tryz.prog.underlying 35 = some (.struct fs) := ⟨_, Tryz.underlying35⟩
  have hcl : cs.length = 29 := by obtain ⟨_, _, _, _, hl, _⟩ := DataW.trod_struct hu h; rw [hl]; kernel_rfl
  obtain ⟨⟨s0, sa0, so0, st0⟩, ⟨s1, sa1, so1, st1⟩, ⟨s2, sa2, so2, st2⟩, ⟨s3, sa3, so3, st3⟩, ⟨s4, sa4, so4, st4⟩, ⟨s5, sa5, so5, st5⟩, ⟨s6, sa6, so6, st6⟩⟩ := step_fields fs hu
  obtain ⟨⟨c0, ca0, co0, ct0⟩, ⟨c1, ca1, co1, ct1⟩, ⟨c2, ca2, co2, ct2⟩, ⟨c3, ca3, co3, ct3⟩, ⟨c4, ca4, co4, ct4⟩, ⟨c5, ca5, co5, ct5⟩, ⟨c6, ca6, co6, ct6⟩, ⟨c7, ca7, co7, ct7⟩, ⟨c8, ca8, co8, ct8⟩, ⟨c9, ca9, co9, ct9⟩, ⟨c10, ca10, co10, ct10⟩, ⟨c11, ca11, co11, ct11⟩, ⟨c12, ca12, co12, ct12⟩, ⟨c13, ca13, co13, ct13⟩⟩ := conf_fields fc huc
  obtain ⟨sn0, sy0, sg0⟩ := fld9 hu h 0 s0 sa0
  rw [so0, st0, cells9_0] at sg0
  obtain ⟨sn1, sy1, sg1⟩ := fld9 hu h 1 s1 sa1
  rw [so1, st1, cells9_0] at sg1
  obtain ⟨sn2, sy2, sg2⟩ := fld9 hu h 2 s2 sa2
  rw [so2, st2, cells9_8] at sg2
  obtain ⟨sn3, sy3, sg3⟩ := fld9 hu h 3 s3 sa3
  rw [so3, st3, cells9_0] at sg3
  obtain ⟨sn4, sy4, sg4⟩ := fld9 hu h 4 s4 sa4
  rw [so4, st4, cells9_2] at sg4
  obtain ⟨sn5, sy5, sg5⟩ := fld9 hu h 5 s5 sa5
  rw [so5, st5, cells9_3] at sg5
  obtain ⟨sn6, sy6, sg6⟩ := fld9 hu h 6 s6 sa6
  rw [so6, st6, cells9_4] at sg6
  obtain ⟨cn0, cy0, cg0⟩ := fld9 huc sg2 0 c0 ca0
  rw [co0, ct0, cells9_1] at cg0
  obtain ⟨cn1, cy1, cg1⟩ := fld9 huc sg2 1 c1 ca1
  rw [co1, ct1, cells9_2] at cg1
  obtain ⟨cn2, cy2, cg2⟩ := fld9 huc sg2 2 c2 ca2
  rw [co2, ct2, cells9_2] at cg2
  obtain ⟨cn3, cy3, cg3⟩ := fld9 huc sg2 3 c3 ca3
  rw [co3, ct3, cells9_9] at cg3
  obtain ⟨cn4, cy4, cg4⟩ := fld9 huc sg2 4 c4 ca4
  rw [co4, ct4, cells9_5] at cg4
  obtain ⟨cn5, cy5, cg5⟩ := fld9 huc sg2 5 c5 ca5
  rw [co5, ct5, cells9_0] at cg5
  obtain ⟨cn6, cy6, cg6⟩ := fld9 huc sg2 6 c6 ca6
  rw [co6, ct6, cells9_6] at cg6
  obtain ⟨cn7, cy7, cg7⟩ := fld9 huc sg2 7 c7 ca7
  rw [co7, ct7, cells9_0] at cg7
  obtain ⟨cn8, cy8, cg8⟩ := fld9 huc sg2 8 c8 ca8
  rw [co8, ct8, cells9_0] at cg8
  obtain ⟨cn9, cy9, cg9⟩ := fld9 huc sg2 9 c9 ca9
  rw [co9, ct9, cells9_2] at cg9
  obtain ⟨cn10, cy10, cg10⟩ := fld9 huc sg2 10 c10 ca10
  rw [co10, ct10, cells9_4] at cg10
  obtain ⟨cn11, cy11, cg11⟩ := fld9 huc sg2 11 c11 ca11
  rw [co11, ct11, cells9_1] at cg11
  obtain ⟨cn12, cy12, cg12⟩ := fld9 huc sg2 12 c12 ca12
  rw [co12, ct12, cells9_1] at cg12
  obtain ⟨cn13, cy13, cg13⟩ := fld9 huc sg2 13 c13 ca13
  rw [co13, ct13, cells9_7] at cg13
  obtain ⟨p0, pa0, po0, pt0⟩ := prefs_field fp hup 0 (by decide)
  obtain ⟨pn0, py0, pg0⟩ := fld9 hup cg3 0 p0 pa0
  rw [po0, pt0, cells9_5] at pg0
  obtain ⟨p1, pa1, po1, pt1⟩ := prefs_field fp hup 1 (by decide)
  obtain ⟨pn1, py1, pg1⟩ := fld9 hup cg3 1 p1 pa1
  rw [po1, pt1, cells9_5] at pg1
  obtain ⟨p2, pa2, po2, pt2⟩ := prefs_field fp hup 2 (by decide)
  obtain ⟨pn2, py2, pg2⟩ := fld9 hup cg3 2 p2 pa2
  rw [po2, pt2, cells9_5] at pg2
  obtain ⟨p3, pa3, po3, pt3⟩ := prefs_field fp hup 3 (by decide)
  obtain ⟨pn3, py3, pg3⟩ := fld9 hup cg3 3 p3 pa3
  rw [po3, pt3, cells9_5] at pg3
  obtain ⟨p4, pa4, po4, pt4⟩ := prefs_field fp hup 4 (by decide)
  obtain ⟨pn4, py4, pg4⟩ := fld9 hup cg3 4 p4 pa4
  rw [po4, pt4, cells9_5] at pg4
  obtain ⟨p5, pa5, po5, pt5⟩ := prefs_field fp hup 5 (by decide)
  obtain ⟨pn5, py5, pg5⟩ := fld9 hup cg3 5 p5 pa5
  rw [po5, pt5, cells9_5] at pg5
  obtain ⟨p6, pa6, po6, pt6⟩ := prefs_field fp hup 6 (by decide)
  obtain ⟨pn6, py6, pg6⟩ := fld9 hup cg3 6 p6 pa6
  rw [po6, pt6, cells9_5] at pg6
  obtain ⟨p7, pa7, po7, pt7⟩ := prefs_field fp hup 7 (by decide)
  obtain ⟨pn7, py7, pg7⟩ := fld9 hup cg3 7 p7 pa7
  rw [po7, pt7, cells9_5] at pg7
  obtain ⟨vK, evK, ivK⟩ := leaf_int sg0
  have kvK := (get_one evK)
  obtain ⟨v0, ev0, iv0⟩ := leaf_int sg1
  have kv0 := (get_one ev0)
  obtain ⟨v1, ev1, iv1⟩ := leaf_int sg3
  have kv1 := (get_one ev1)
  obtain ⟨v2, ev2, iv2⟩ := leaf_str sg4
  have kv2 := (get_one ev2)
  obtain ⟨Av3, nv3, qv3, zv3, ev3, lv3, mv3, rv3, ov3⟩ := open_rows Tryz.underlying42 op_flat9 (by kernel_rfl) (by decide) sg5
  obtain ⟨v3, rfl, iv3⟩ := ops9 zv3 ov3
  have kv3 := (get_one ev3)
  have hlv3 : v3.length = nv3 := by have := rv3.1; simpa using this
  obtain ⟨Av4, nv4, qv4, zv4, ev4, lv4, mv4, rv4, ov4⟩ := open_rows Tryz.underlying37 int_flat9 (by kernel_rfl) (by decide) sg6
  obtain ⟨v4, rfl, iv4⟩ := ints9 zv4 ov4
  have kv4 := (get_one ev4)
  have hlv4 : v4.length = nv4 := by have := rv4.1; simpa using this
  obtain ⟨v5, ev5⟩ := leaf_bool cg0
  have kv5 := get_in (get_one ev5)
  obtain ⟨v6, ev6, iv6⟩ := leaf_str cg1
  have kv6 := get_in (get_one ev6)
  obtain ⟨v7, ev7, iv7⟩ := leaf_str cg2
  have kv7 := get_in (get_one ev7)
  obtain ⟨Av16, nv16, qv16, zv16, ev16, lv16, mv16, rv16, ov16⟩ := open_rows Tryz.underlying27 str_flat (by kernel_rfl) (by decide) cg4
  obtain ⟨v16, rfl, iv16⟩ := strs9 zv16 ov16
  have kv16 := get_in (get_one ev16)
  have hlv16 : v16.length = nv16 := by have := rv16.1; simpa using this
  obtain ⟨v17, ev17, iv17⟩ := leaf_int cg5
  have kv17 := get_in (get_one ev17)
  obtain ⟨Av18, nv18, qv18, zv18, ev18, lv18, mv18, rv18, ov18⟩ := open_rows Tryz.underlying36 gr_flat9 (by kernel_rfl) (by decide) cg6
  obtain ⟨v18, rfl, iv18⟩ := grs9 zv18 ov18
  have kv18 := get_in (get_one ev18)
  have hlv18 : v18.length = nv18 := by have := rv18.1; simpa using this
  obtain ⟨v19, ev19, iv19⟩ := leaf_int cg7
  have kv19 := get_in (get_one ev19)
  obtain ⟨v20, ev20, iv20⟩ := leaf_int cg8
  have kv20 := get_in (get_one ev20)
  obtain ⟨v21, ev21, iv21⟩ := leaf_str cg9
  have kv21 := get_in (get_one ev21)
  obtain ⟨Av22, nv22, qv22, zv22, ev22, lv22, mv22, rv22, ov22⟩ := open_rows Tryz.underlying37 int_flat9 (by kernel_rfl) (by decide) cg10
  obtain ⟨v22, rfl, iv22⟩ := ints9 zv22 ov22
  have kv22 := get_in (get_one ev22)
  have hlv22 : v22.length = nv22 := by have := rv22.1; simpa using this
  obtain ⟨v23, ev23⟩ := leaf_bool cg11
  have kv23 := get_in (get_one ev23)
  obtain ⟨v24, ev24⟩ := leaf_bool cg12
  have kv24 := get_in (get_one ev24)
  obtain ⟨Av8, nv8, qv8, zv8, ev8, lv8, mv8, rv8, ov8⟩ := open_rows Tryz.underlying27 str_flat (by kernel_rfl) (by decide) pg0
  obtain ⟨v8, rfl, iv8⟩ := strs9 zv8 ov8
  have kv8 := get_in (get_in (get_one ev8))
  have hlv8 : v8.length = nv8 := by have := rv8.1; simpa using this
  obtain ⟨Av9, nv9, qv9, zv9, ev9, lv9, mv9, rv9, ov9⟩ := open_rows Tryz.underlying27 str_flat (by kernel_rfl) (by decide) pg1
  obtain ⟨v9, rfl, iv9⟩ := strs9 zv9 ov9
  have kv9 := get_in (get_in (get_one ev9))
  have hlv9 : v9.length = nv9 := by have := rv9.1; simpa using this
  obtain ⟨Av10, nv10, qv10, zv10, ev10, lv10, mv10, rv10, ov10⟩ := open_rows Tryz.underlying27 str_flat (by kernel_rfl) (by decide) pg2
  obtain ⟨v10, rfl, iv10⟩ := strs9 zv10 ov10
  have kv10 := get_in (get_in (get_one ev10))
  have hlv10 : v10.length = nv10 := by have := rv10.1; simpa using this
  obtain ⟨Av11, nv11, qv11, zv11, ev11, lv11, mv11, rv11, ov11⟩ := open_rows Tryz.underlying27 str_flat (by kernel_rfl) (by decide) pg3
  obtain ⟨v11, rfl, iv11⟩ := strs9 zv11 ov11
  have kv11 := get_in (get_in (get_one ev11))
  have hlv11 : v11.length = nv11 := by have := rv11.1; simpa using this
  obtain ⟨Av12, nv12, qv12, zv12, ev12, lv12, mv12, rv12, ov12⟩ := open_rows Tryz.underlying27 str_flat (by kernel_rfl) (by decide) pg4
  obtain ⟨v12, rfl, iv12⟩ := strs9 zv12 ov12
  have kv12 := get_in (get_in (get_one ev12))
  have hlv12 : v12.length = nv12 := by have := rv12.1; simpa using this
  obtain ⟨Av13, nv13, qv13, zv13, ev13, lv13, mv13, rv13, ov13⟩ := open_rows Tryz.underlying27 str_flat (by kernel_rfl) (by decide) pg5
  obtain ⟨v13, rfl, iv13⟩ := strs9 zv13 ov13
  have kv13 := get_in (get_in (get_one ev13))
  have hlv13 : v13.length = nv13 := by have := rv13.1; simpa using this
  obtain ⟨Av14, nv14, qv14, zv14, ev14, lv14, mv14, rv14, ov14⟩ := open_rows Tryz.underlying27 str_flat (by kernel_rfl) (by decide) pg6
  obtain ⟨v14, rfl, iv14⟩ := strs9 zv14 ov14
  have kv14 := get_in (get_in (get_one ev14))
  have hlv14 : v14.length = nv14 := by have := rv14.1; simpa using this
  obtain ⟨Av15, nv15, qv15, zv15, ev15, lv15, mv15, rv15, ov15⟩ := open_rows Tryz.underlying27 str_flat (by kernel_rfl) (by decide) pg7
  obtain ⟨v15, rfl, iv15⟩ := strs9 zv15 ov15
  have kv15 := get_in (get_in (get_one ev15))
  have hlv15 : v15.length = nv15 := by have := rv15.1; simpa using this
  obtain ⟨wa, wb, wc, ew, w1, w2, w3⟩ := leaf_wish cg13
  refine ⟨vK, [.num v0, .num v1, .text v2, .ops v3, .nums v4, .flag v5, .text v6, .text v7, .texts v8, .texts v9, .texts v10, .texts v11, .texts v12, .texts v13, .texts v14, .texts v15, .texts v16, .num v17, .grants v18, .num v19, .num v20, .text v21, .nums v22, .flag v23, .flag v24, .wish wa wb wc], ⟨hcl, kvK, fun i off v h1 h2 => ?_, ?_⟩, ?_, ?_⟩
  · match i with
    | 0 =>
      obtain rfl := Option.some.inj h1
      obtain rfl := Option.some.inj h2
      exact ⟨_, rfl, fun j x hj => by
        match j, hj with
        | 0, hj => obtain rfl := Option.some.inj hj; exact kv0⟩
    | 1 =>
      obtain rfl := Option.some.inj h1
      obtain rfl := Option.some.inj h2
      exact ⟨_, rfl, fun j x hj => by
        match j, hj with
        | 0, hj => obtain rfl := Option.some.inj hj; exact kv1⟩
    | 2 =>
      obtain rfl := Option.some.inj h1
      obtain rfl := Option.some.inj h2
      exact ⟨_, rfl, fun j x hj => by
        match j, hj with
        | 0, hj => obtain rfl := Option.some.inj hj; exact kv2⟩
    | 3 =>
      obtain rfl := Option.some.inj h1
      obtain rfl := Option.some.inj h2
      exact ⟨_, ⟨_, rfl, Av3, qv3, by rw [List.length_map, hlv3], by rw [List.length_map, hlv3]; exact lv3, by have := mv3; unfold maxLen at this; omega, by rw [List.length_map, hlv3]; exact rv3⟩, fun j x hj => by
        match j, hj with
        | 0, hj => obtain rfl := Option.some.inj hj; exact kv3⟩
    | 4 =>
      obtain rfl := Option.some.inj h1
      obtain rfl := Option.some.inj h2
      exact ⟨_, ⟨_, rfl, Av4, qv4, by rw [List.length_map, hlv4], by rw [List.length_map, hlv4]; exact lv4, by have := mv4; unfold maxLen at this; omega, by rw [List.length_map, hlv4]; exact rv4⟩, fun j x hj => by
        match j, hj with
        | 0, hj => obtain rfl := Option.some.inj hj; exact kv4⟩
    | 5 =>
      obtain rfl := Option.some.inj h1
      obtain rfl := Option.some.inj h2
      exact ⟨_, rfl, fun j x hj => by
        match j, hj with
        | 0, hj => obtain rfl := Option.some.inj hj; exact kv5⟩
    | 6 =>
      obtain rfl := Option.some.inj h1
      obtain rfl := Option.some.inj h2
      exact ⟨_, rfl, fun j x hj => by
        match j, hj with
        | 0, hj => obtain rfl := Option.some.inj hj; exact kv6⟩
    | 7 =>
      obtain rfl := Option.some.inj h1
      obtain rfl := Option.some.inj h2
      exact ⟨_, rfl, fun j x hj => by
        match j, hj with
        | 0, hj => obtain rfl := Option.some.inj hj; exact kv7⟩
    | 8 =>
      obtain rfl := Option.some.inj h1
      obtain rfl := Option.some.inj h2
      exact ⟨_, ⟨_, rfl, Av8, qv8, by rw [List.length_map, hlv8], by rw [List.length_map, hlv8]; exact lv8, by have := mv8; unfold maxLen at this; omega, by rw [List.length_map, hlv8]; exact rv8⟩, fun j x hj => by
        match j, hj with
        | 0, hj => obtain rfl := Option.some.inj hj; exact kv8⟩
    | 9 =>
      obtain rfl := Option.some.inj h1
      obtain rfl := Option.some.inj h2
      exact ⟨_, ⟨_, rfl, Av9, qv9, by rw [List.length_map, hlv9], by rw [List.length_map, hlv9]; exact lv9, by have := mv9; unfold maxLen at this; omega, by rw [List.length_map, hlv9]; exact rv9⟩, fun j x hj => by
        match j, hj with
        | 0, hj => obtain rfl := Option.some.inj hj; exact kv9⟩
    | 10 =>
      obtain rfl := Option.some.inj h1
      obtain rfl := Option.some.inj h2
      exact ⟨_, ⟨_, rfl, Av10, qv10, by rw [List.length_map, hlv10], by rw [List.length_map, hlv10]; exact lv10, by have := mv10; unfold maxLen at this; omega, by rw [List.length_map, hlv10]; exact rv10⟩, fun j x hj => by
        match j, hj with
        | 0, hj => obtain rfl := Option.some.inj hj; exact kv10⟩
    | 11 =>
      obtain rfl := Option.some.inj h1
      obtain rfl := Option.some.inj h2
      exact ⟨_, ⟨_, rfl, Av11, qv11, by rw [List.length_map, hlv11], by rw [List.length_map, hlv11]; exact lv11, by have := mv11; unfold maxLen at this; omega, by rw [List.length_map, hlv11]; exact rv11⟩, fun j x hj => by
        match j, hj with
        | 0, hj => obtain rfl := Option.some.inj hj; exact kv11⟩
    | 12 =>
      obtain rfl := Option.some.inj h1
      obtain rfl := Option.some.inj h2
      exact ⟨_, ⟨_, rfl, Av12, qv12, by rw [List.length_map, hlv12], by rw [List.length_map, hlv12]; exact lv12, by have := mv12; unfold maxLen at this; omega, by rw [List.length_map, hlv12]; exact rv12⟩, fun j x hj => by
        match j, hj with
        | 0, hj => obtain rfl := Option.some.inj hj; exact kv12⟩
    | 13 =>
      obtain rfl := Option.some.inj h1
      obtain rfl := Option.some.inj h2
      exact ⟨_, ⟨_, rfl, Av13, qv13, by rw [List.length_map, hlv13], by rw [List.length_map, hlv13]; exact lv13, by have := mv13; unfold maxLen at this; omega, by rw [List.length_map, hlv13]; exact rv13⟩, fun j x hj => by
        match j, hj with
        | 0, hj => obtain rfl := Option.some.inj hj; exact kv13⟩
    | 14 =>
      obtain rfl := Option.some.inj h1
      obtain rfl := Option.some.inj h2
      exact ⟨_, ⟨_, rfl, Av14, qv14, by rw [List.length_map, hlv14], by rw [List.length_map, hlv14]; exact lv14, by have := mv14; unfold maxLen at this; omega, by rw [List.length_map, hlv14]; exact rv14⟩, fun j x hj => by
        match j, hj with
        | 0, hj => obtain rfl := Option.some.inj hj; exact kv14⟩
    | 15 =>
      obtain rfl := Option.some.inj h1
      obtain rfl := Option.some.inj h2
      exact ⟨_, ⟨_, rfl, Av15, qv15, by rw [List.length_map, hlv15], by rw [List.length_map, hlv15]; exact lv15, by have := mv15; unfold maxLen at this; omega, by rw [List.length_map, hlv15]; exact rv15⟩, fun j x hj => by
        match j, hj with
        | 0, hj => obtain rfl := Option.some.inj hj; exact kv15⟩
    | 16 =>
      obtain rfl := Option.some.inj h1
      obtain rfl := Option.some.inj h2
      exact ⟨_, ⟨_, rfl, Av16, qv16, by rw [List.length_map, hlv16], by rw [List.length_map, hlv16]; exact lv16, by have := mv16; unfold maxLen at this; omega, by rw [List.length_map, hlv16]; exact rv16⟩, fun j x hj => by
        match j, hj with
        | 0, hj => obtain rfl := Option.some.inj hj; exact kv16⟩
    | 17 =>
      obtain rfl := Option.some.inj h1
      obtain rfl := Option.some.inj h2
      exact ⟨_, rfl, fun j x hj => by
        match j, hj with
        | 0, hj => obtain rfl := Option.some.inj hj; exact kv17⟩
    | 18 =>
      obtain rfl := Option.some.inj h1
      obtain rfl := Option.some.inj h2
      exact ⟨_, ⟨_, rfl, Av18, qv18, by rw [List.length_map, hlv18], by rw [List.length_map, hlv18]; exact lv18, by have := mv18; unfold maxLen at this; omega, by rw [List.length_map, hlv18]; exact rv18⟩, fun j x hj => by
        match j, hj with
        | 0, hj => obtain rfl := Option.some.inj hj; exact kv18⟩
    | 19 =>
      obtain rfl := Option.some.inj h1
      obtain rfl := Option.some.inj h2
      exact ⟨_, rfl, fun j x hj => by
        match j, hj with
        | 0, hj => obtain rfl := Option.some.inj hj; exact kv19⟩
    | 20 =>
      obtain rfl := Option.some.inj h1
      obtain rfl := Option.some.inj h2
      exact ⟨_, rfl, fun j x hj => by
        match j, hj with
        | 0, hj => obtain rfl := Option.some.inj hj; exact kv20⟩
    | 21 =>
      obtain rfl := Option.some.inj h1
      obtain rfl := Option.some.inj h2
      exact ⟨_, rfl, fun j x hj => by
        match j, hj with
        | 0, hj => obtain rfl := Option.some.inj hj; exact kv21⟩
    | 22 =>
      obtain rfl := Option.some.inj h1
      obtain rfl := Option.some.inj h2
      exact ⟨_, ⟨_, rfl, Av22, qv22, by rw [List.length_map, hlv22], by rw [List.length_map, hlv22]; exact lv22, by have := mv22; unfold maxLen at this; omega, by rw [List.length_map, hlv22]; exact rv22⟩, fun j x hj => by
        match j, hj with
        | 0, hj => obtain rfl := Option.some.inj hj; exact kv22⟩
    | 23 =>
      obtain rfl := Option.some.inj h1
      obtain rfl := Option.some.inj h2
      exact ⟨_, rfl, fun j x hj => by
        match j, hj with
        | 0, hj => obtain rfl := Option.some.inj hj; exact kv23⟩
    | 24 =>
      obtain rfl := Option.some.inj h1
      obtain rfl := Option.some.inj h2
      exact ⟨_, rfl, fun j x hj => by
        match j, hj with
        | 0, hj => obtain rfl := Option.some.inj hj; exact kv24⟩
    | 25 =>
      obtain rfl := Option.some.inj h1
      obtain rfl := Option.some.inj h2
      exact ⟨_, rfl, fun j x hj => by have h9 := get_in (get_in (show (((cs.drop 2).take 23).drop 20 |>.take 3)[j]? = some x by rw [ew]; exact hj)); rwa [show 2 + (20 + j) = 22 + j by omega] at h9⟩
    | i + 26 => cases h1
  · refine one_arr fun y hy => ?_
    obtain ⟨i, hi, rfl⟩ := List.getElem_of_mem hy
    have hg := List.getElem?_eq_getElem hi
    rw [hcl] at hi
    generalize cs[i] = y at hg
    have hw : ∀ j v, [Value.int .u32 (wa : Int), .int .u32 (wb : Int), .int .u32 (wc : Int)][j]? = some v → cs[22 + j]? = some v := fun j v hj => by have h9 := get_in (get_in (show (((cs.drop 2).take 23).drop 20 |>.take 3)[j]? = some v by rw [ew]; exact hj)); rwa [show 2 + (20 + j) = 22 + j by omega] at h9
    match i, hi with
    | 0, _ => obtain rfl := Option.some.inj (hg.symm.trans kvK); rfl
    | 1, _ => obtain rfl := Option.some.inj (hg.symm.trans kv0); rfl
    | 2, _ => obtain rfl := Option.some.inj (hg.symm.trans kv5); rfl
    | 3, _ => obtain rfl := Option.some.inj (hg.symm.trans kv6); rfl
    | 4, _ => obtain rfl := Option.some.inj (hg.symm.trans kv7); rfl
    | 5, _ => obtain rfl := Option.some.inj (hg.symm.trans kv8); rfl
    | 6, _ => obtain rfl := Option.some.inj (hg.symm.trans kv9); rfl
    | 7, _ => obtain rfl := Option.some.inj (hg.symm.trans kv10); rfl
    | 8, _ => obtain rfl := Option.some.inj (hg.symm.trans kv11); rfl
    | 9, _ => obtain rfl := Option.some.inj (hg.symm.trans kv12); rfl
    | 10, _ => obtain rfl := Option.some.inj (hg.symm.trans kv13); rfl
    | 11, _ => obtain rfl := Option.some.inj (hg.symm.trans kv14); rfl
    | 12, _ => obtain rfl := Option.some.inj (hg.symm.trans kv15); rfl
    | 13, _ => obtain rfl := Option.some.inj (hg.symm.trans kv16); rfl
    | 14, _ => obtain rfl := Option.some.inj (hg.symm.trans kv17); rfl
    | 15, _ => obtain rfl := Option.some.inj (hg.symm.trans kv18); rfl
    | 16, _ => obtain rfl := Option.some.inj (hg.symm.trans kv19); rfl
    | 17, _ => obtain rfl := Option.some.inj (hg.symm.trans kv20); rfl
    | 18, _ => obtain rfl := Option.some.inj (hg.symm.trans kv21); rfl
    | 19, _ => obtain rfl := Option.some.inj (hg.symm.trans kv22); rfl
    | 20, _ => obtain rfl := Option.some.inj (hg.symm.trans kv23); rfl
    | 21, _ => obtain rfl := Option.some.inj (hg.symm.trans kv24); rfl
    | 22, _ => obtain rfl := Option.some.inj (hg.symm.trans (hw 0 _ rfl)); rfl
    | 23, _ => obtain rfl := Option.some.inj (hg.symm.trans (hw 1 _ rfl)); rfl
    | 24, _ => obtain rfl := Option.some.inj (hg.symm.trans (hw 2 _ rfl)); rfl
    | 25, _ => obtain rfl := Option.some.inj (hg.symm.trans kv1); rfl
    | 26, _ => obtain rfl := Option.some.inj (hg.symm.trans kv2); rfl
    | 27, _ => obtain rfl := Option.some.inj (hg.symm.trans kv3); rfl
    | 28, _ => obtain rfl := Option.some.inj (hg.symm.trans kv4); rfl
    | i + 29, hi => exact absurd hi (by omega)
  · exact .cons iv0 (.cons iv1 (.cons trivial (.cons (fun o ho => (iv3 o ho).2) (.cons iv4 (.cons trivial (.cons trivial (.cons trivial (.cons trivial (.cons trivial (.cons trivial (.cons trivial (.cons trivial (.cons trivial (.cons trivial (.cons trivial (.cons trivial (.cons iv17 (.cons (fun g hg => (iv18 g hg).2) (.cons iv19 (.cons iv20 (.cons trivial (.cons iv22 (.cons trivial (.cons trivial (.cons ⟨w1, w2, w3⟩ (.nil))))))))))))))))))))))))))
  · intro v hv
    simp only [List.mem_cons, List.not_mem_nil, or_false] at hv
    rcases hv with rfl | rfl | rfl | rfl | rfl | rfl | rfl | rfl | rfl | rfl | rfl | rfl | rfl | rfl | rfl | rfl | rfl | rfl | rfl | rfl | rfl | rfl | rfl | rfl | rfl | rfl
    · exact trivial
    · exact trivial
    · exact iv2
    · exact fun o ho => (iv3 o ho).1
    · exact trivial
    · exact trivial
    · exact iv6
    · exact iv7
    · exact iv8
    · exact iv9
    · exact iv10
    · exact iv11
    · exact iv12
    · exact iv13
    · exact iv14
    · exact iv15
    · exact iv16
    · exact trivial
    · exact ⟨fun g hg => (iv18 g hg).1, fun g hg => (iv18 g hg).2⟩
    · exact trivial
    · exact trivial
    · exact iv21
    · exact trivial
    · exact trivial
    · exact trivial
    · exact trivial
end
end Go.Proofs.YtmicohmbmgbnkaaGreatDoor
