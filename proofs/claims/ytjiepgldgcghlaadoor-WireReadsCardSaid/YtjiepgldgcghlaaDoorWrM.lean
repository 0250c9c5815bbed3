/- The nil reader; the acts. -/
import Derived.Test.YtjiepgldgcghlaaDoorWrL
import Derived.Test.YtjiepgldgcghlaaDoorOpenRows
namespace Go.Proofs.YtjiepgldgcghlaaDoor
open Go.RowKit Go.ChangeShapes Go.WideShapes

theorem nText (f : Nat) (w : World) : Calls Tryd.prog 48 #[.pointer none, fv f] w fun r w' => r = .returned (.string ⟨#[]⟩) ∧ w = w' := by
  have cT := Lib.hid (take_nil 55 0 4 w)
  unfold fv
  go_enter Tryd.func48, Tryd.ntmps48
  go_wp2_with (first
    | (go_at_call 13; refine (err_nil _).mono ?_; rintro r w1 ⟨rfl, rfl⟩)
    | (go_at_call 54; refine cT.out.mono ?_; rintro r w1 ⟨rfl, rfl⟩))
  go_ret
  exact ⟨rfl, rfl⟩
theorem nTextT (w : World) : Calls Tryd.prog 37 #[.pointer none] w fun r w' => r = .returned (.string ⟨#[]⟩) ∧ w = w' := by
  have c := Lib.hid (nText 55 w)
  go_enter Tryd.func37, Tryd.ntmps37
  go_wp2_with (go_at_call 48; refine c.out.mono ?_; rintro r w1 ⟨rfl, rfl⟩)
  go_ret
  exact ⟨rfl, rfl⟩
theorem nWhole (w : World) : Calls Tryd.prog 12 #[.pointer none] w fun r w' => r = .returned (.string ⟨#[]⟩) ∧ w = w' := by
  have c := Lib.hid (nText 49 w)
  have p := plain_any ⟨#[]⟩ w (by decide)
  rw [plain_nil] at p
  have pH := Lib.hid p
  clear p
  go_enter Tryd.func12, Tryd.ntmps12
  go_wp2_with (first
    | (go_at_call 48; refine c.out.mono ?_; rintro r w1 ⟨rfl, rfl⟩)
    | (go_at_call 47; refine pH.out.mono ?_; rintro r w1 ⟨rfl, rfl⟩))
  go_ret
  exact ⟨rfl, rfl⟩
theorem nByte (w : World) : Calls Tryd.prog 31 #[.pointer none] w fun r w' => r = .returned (.int .u8 0) ∧ w = w' := by
  have c := Lib.hid (take_nil 55 0 1 w)
  go_enter Tryd.func31, Tryd.ntmps31
  go_wp2_with (go_at_call 54; refine c.out.mono ?_; rintro r w1 ⟨rfl, rfl⟩)
  go_ret
  exact ⟨rfl, rfl⟩
theorem nBool (w : World) : Calls Tryd.prog 33 #[.pointer none] w fun r w' => r = .returned (.bool false) ∧ w = w' := by
  have c := Lib.hid (take_nil 56 0 1 w)
  go_enter Tryd.func33, Tryd.ntmps33
  go_wp2_with (go_at_call 54; refine c.out.mono ?_; rintro r w1 ⟨rfl, rfl⟩)
  go_ret
  exact ⟨rfl, rfl⟩
theorem nU32 (w : World) : Calls Tryd.prog 35 #[.pointer none] w fun r w' => r = .returned (.int .u32 0) ∧ w = w' := by
  have c := Lib.hid (take_nil 55 0 4 w)
  have n := number_any ⟨#[]⟩ w (by decide)
  rw [show numb (⟨#[]⟩ : ByteArray).toList = 0 by rw [bsl]; rfl] at n
  have nH := Lib.hid n
  clear n
  go_enter Tryd.func35, Tryd.ntmps35
  go_wp2_with (first
    | (go_at_call 54; refine c.out.mono ?_; rintro r w1 ⟨rfl, rfl⟩)
    | (go_at_call 57; refine nH.out.mono ?_; rintro r w1 ⟨rfl, rfl⟩))
  go_ret
  exact ⟨rfl, rfl⟩
theorem nBytes (w : World) : Calls Tryd.prog 40 #[.pointer none, .int .i64 0] w fun r w' => r = .returned (.string ⟨#[]⟩) ∧ w = w' := by
  have c := Lib.hid (take_nil 55 0 0 w)
  go_enter Tryd.func40, Tryd.ntmps40
  go_wp2_with (go_at_call 54; refine c.out.mono ?_; rintro r w1 ⟨rfl, rfl⟩)
  go_ret
  exact ⟨rfl, rfl⟩
theorem nEnd (w : World) : Calls Tryd.prog 16 #[.pointer none] w fun r w' => r = .returned (.int .i64 1) ∧ w = w' := by
  go_enter Tryd.func16, Tryd.ntmps16
  go_wp2_with (go_at_call 13; refine (err_nil _).mono ?_; rintro r w1 ⟨rfl, rfl⟩)
  go_ret
  exact ⟨rfl, rfl⟩

/-! ### Acts -/
def av (p : Int × Int) : List Value := [.int .i64 p.1, .int .i64 p.2]
def Acts (w : World) (A : Option Addr) (n : Nat) (ps : List (Int × Int)) : Prop := Rws w 2 A n (ps.map av)
theorem Acts.keep {w w' : World} {A : Option Addr} {n : Nat} {ps : List (Int × Int)} (h : Acts w A n ps) (hb : Below w.heap.size w w') : Acts w' A n ps := Rws.keep h hb
theorem Acts.at_ {w : World} {A : Option Addr} {n : Nat} {ps : List (Int × Int)} (h : Acts w A n ps) {j : Nat} (hj : j < n) :
    ∃ b off x y, A = some ⟨b, off, none⟩ ∧ b < w.heap.size ∧ w.cell? ⟨b, off + j * 2, none⟩ = some (.int .i64 x) ∧ w.cell? ⟨b, off + j * 2 + 1, none⟩ = some (.int .i64 y) := by
  obtain ⟨b, off, z, e, hlt, hz, _, hr⟩ := Rws.row h hj
  rw [List.getElem?_map] at hz
  cases he : ps[j]? with
  | none => rw [he] at hz; cases hz
  | some x =>
    rw [he] at hz
    simp only [Option.map_some, Option.some.injEq] at hz
    subst hz
    exact ⟨b, off, x.1, x.2, e, hlt, hr 0 _ rfl, hr 1 _ rfl⟩
def avDs : List TypeDesc := [.int .i64, .int .i64]
theorem av_flat : flatDesc Tryd.prog 4 55 = some avDs := by kernel_rfl
theorem acts_of_rows : ∀ (zs : List (List Value)), (∀ z ∈ zs, allOk avDs z) → ∃ ps : List (Int × Int), zs = ps.map av
  | [], _ => ⟨[], rfl⟩
  | z :: r, h => by
    obtain ⟨ps, rfl⟩ := acts_of_rows r (fun y hy => h y (by simp [hy]))
    obtain ⟨hl, hc⟩ := h z (by simp)
    match z, hl with
    | c0 :: c1 :: [], _ =>
      obtain ⟨x0, rfl, _⟩ := hc 0 _ _ rfl rfl
      obtain ⟨x1, rfl, _⟩ := hc 1 _ _ rfl rfl
      exact ⟨(x0, x1) :: ps, rfl⟩
set_option maxRecDepth 100000 in
theorem open_acts {H : Type} {enc : TypeId × Value → H} {w : World} {base : Nat} {spare : Nat → Bool} {held : Bool} {r : Reach} {b0 : Nat} {v : Value} {d : DataW H} {ps : List MemPlace}
    (hv : Value.okWide Tryd.prog w r b0 51 v) (h : DataW.Trod enc Tryd.prog w base spare held 51 v d ps) :
    ∃ A n c ac, v = .slice A n c ∧ n ≤ 9223372036854775807 ∧ Acts w A n ac := by
  obtain ⟨a, len, cap, rfl⟩ := okWide_slice Tryd.underlying51 hv
  obtain ⟨fuel, hf⟩ := h
  obtain ⟨A, n, c, zs, hcs, hl, hm, hr, hok⟩ := open_rows Tryd.underlying51 av_flat (by kernel_rfl) (by decide) hf
  obtain ⟨ac, rfl⟩ := acts_of_rows zs hok
  have : Value.slice a len cap = .slice A n c := by simpa [Value.cells] using hcs
  refine ⟨A, n, c, ac, this, ?_, hr⟩
  unfold maxLen at hm
  omega
end Go.Proofs.YtjiepgldgcghlaaDoor
