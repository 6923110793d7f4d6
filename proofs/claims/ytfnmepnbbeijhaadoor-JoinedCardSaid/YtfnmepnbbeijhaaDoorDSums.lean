/- THE WALK of the law SumsBack. -/
import Derived.Test.YtfnmepnbbeijhaaDoorDLaws2
namespace Go.Proofs.YtfnmepnbbeijhaaDoor
open Go Go.RowKit

theorem opR_add (c : Int) (j : ByteArray) (x y : Int) : opR ⟨#[43]⟩ (askAns ⟨#[43]⟩ c) j (some x) (some y) = bndV (x + y) := by
  unfold opR askAns arith
  rw [Lib.toList_data]
  rfl
theorem opR_sub (c : Int) (j : ByteArray) (x y : Int) : opR ⟨#[45]⟩ (askAns ⟨#[45]⟩ c) j (some x) (some y) = bndV (x - y) := by
  unfold opR askAns arith
  rw [Lib.toList_data]
  rfl
theorem opR_mul (c : Int) (j : ByteArray) (x y : Int) : opR ⟨#[42]⟩ (askAns ⟨#[42]⟩ c) j (some x) (some y) = bndV (x * y) := by
  unfold opR askAns arith
  rw [Lib.toList_data]
  rfl
theorem opR_div (c : Int) (j : ByteArray) (x y : Int) : opR ⟨#[47]⟩ (askAns ⟨#[47]⟩ c) j (some x) (some y) = if y == 0 then (false, 0, ⟨#[]⟩, 2) else bndV (x.tdiv y) := by
  unfold opR askAns arith
  rw [Lib.toList_data]
  rfl
theorem opR_rem (c : Int) (j : ByteArray) (x y : Int) : opR ⟨#[37]⟩ (askAns ⟨#[37]⟩ c) j (some x) (some y) = if y == 0 then (false, 0, ⟨#[]⟩, 2) else bndV (x.tmod y) := by
  unfold opR askAns arith
  rw [Lib.toList_data]
  rfl

/-- An operator at two numbers. -/
theorem op_nums (op : ByteArray) (x y : Int) (r : Bool × Int × ByteArray × Int) (hr : ∀ c j, opR op (askAns op c) j (some x) (some y) = r) (hx : numOk x) (hy : numOk y) (w : World) (ht : Pow10 w) :
    Calls Tryd.prog 23 #[.string op, .agg #[.bool false, .int .i64 x, .string ⟨#[]⟩], .agg #[.bool false, .int .i64 y, .string ⟨#[]⟩]] w fun e w' =>
    e = .returned (retV r) ∧ Below w.heap.size w w' := by
  have h := op_any op false x ⟨#[]⟩ false y ⟨#[]⟩ w ht hx hy (by decide) (by decide)
  rw [show numOf false x ⟨#[]⟩ = some x from rfl, show numOf false y ⟨#[]⟩ = some y from rfl, hr] at h
  exact h

theorem op_num_ok (op : ByteArray) (x y z : Int) (hr : ∀ c j, opR op (askAns op c) j (some x) (some y) = bndV z) (hx : numOk x) (hy : numOk y) (hz : numOk z) (w : World) (ht : Pow10 w) :
    Calls Tryd.prog 23 #[.string op, .agg #[.bool false, .int .i64 x, .string ⟨#[]⟩], .agg #[.bool false, .int .i64 y, .string ⟨#[]⟩]] w fun e w' =>
    e = .returned (.tuple #[.agg #[.bool false, .int .i64 z, .string ⟨#[]⟩], .int .i64 0]) ∧ Below w.heap.size w w' := by
  have h := op_nums op x y _ hr hx hy w ht
  unfold bndV at h
  rw [bnd_in hz.1 hz.2] at h
  exact h

theorem op_num_zero (op : ByteArray) (x y : Int) (hr : ∀ c j, opR op (askAns op c) j (some x) (some y) = (false, 0, ⟨#[]⟩, 2)) (hx : numOk x) (hy : numOk y) (w : World) (ht : Pow10 w) :
    Calls Tryd.prog 23 #[.string op, .agg #[.bool false, .int .i64 x, .string ⟨#[]⟩], .agg #[.bool false, .int .i64 y, .string ⟨#[]⟩]] w fun e w' =>
    e = .returned (.tuple #[.agg #[.bool false, .int .i64 0, .string ⟨#[]⟩], .int .i64 2]) ∧ Below w.heap.size w w' :=
  op_nums op x y _ hr hx hy w ht

theorem bxn {W w1 w2 : World} {o o' : Obj} (h : Hid (Below (W.heap.size + 1) (W.alloc o) w1)) (h2 : Below (w1.alloc o').heap.size (w1.alloc o') w2) : Hid (Below (W.heap.size + 1) (W.alloc o) w2) :=
  boxw_next rfl (boxw_next rfl h ((Below.refl _ _).alloc (Nat.le_refl _) o')) h2

/-- The boxes of two numbers, each made and then kept, in a later world. -/
structure XY (w0 w' : World) (x y : Int) (T : TypeId) : Prop where
  h : Below (w0.heap.size + 1 + 1 + 1 + 1) ((((w0.alloc (.cells #[.bool false, .int .i64 x, .string ⟨#[]⟩] T)).alloc (.cells #[.bool false, .int .i64 x, .string ⟨#[]⟩] T)).alloc (.cells #[.bool false, .int .i64 y, .string ⟨#[]⟩] T)).alloc (.cells #[.bool false, .int .i64 y, .string ⟨#[]⟩] T)) w'
theorem XY.start {w0 : World} {x y : Int} {T : TypeId} : XY w0 ((((w0.alloc (.cells #[.bool false, .int .i64 x, .string ⟨#[]⟩] T)).alloc (.cells #[.bool false, .int .i64 x, .string ⟨#[]⟩] T)).alloc (.cells #[.bool false, .int .i64 y, .string ⟨#[]⟩] T)).alloc (.cells #[.bool false, .int .i64 y, .string ⟨#[]⟩] T)) x y T := ⟨Below.refl _ _⟩
theorem XY.next {w0 w1 w2 : World} {x y : Int} {T : TypeId} (h : XY w0 w1 x y T) (h2 : Below w1.heap.size w1 w2) : XY w0 w2 x y T := ⟨below_next h.h h2 (by simp)⟩
theorem XY.alloc {w0 w1 : World} {x y : Int} {T : TypeId} (h : XY w0 w1 x y T) (o : Obj) : XY w0 (w1.alloc o) x y T := h.next ((Below.refl _ _).alloc (Nat.le_refl _) o)
theorem XY.below {w0 w1 : World} {x y : Int} {T : TypeId} (h : XY w0 w1 x y T) : Below w0.heap.size w0 w1 :=
  (((((Below.refl _ _).alloc (Nat.le_refl _) _).alloc (by simp) _).alloc (by simp; omega) _).alloc (by simp; omega) _).trans (h.h.mono (by omega))
theorem XY.cells {w0 w1 : World} {x y : Int} {T : TypeId} (h : XY w0 w1 x y T) :
    w1.cell? ⟨w0.heap.size + 1, 0, none⟩ = some (.bool false) ∧ w1.cell? ⟨w0.heap.size + 1, 1, none⟩ = some (.int .i64 x) ∧ w1.cell? ⟨w0.heap.size + 1, 2, none⟩ = some (.string ⟨#[]⟩) ∧
    w1.cell? ⟨w0.heap.size + 1 + 1 + 1, 0, none⟩ = some (.bool false) ∧ w1.cell? ⟨w0.heap.size + 1 + 1 + 1, 1, none⟩ = some (.int .i64 y) ∧ w1.cell? ⟨w0.heap.size + 1 + 1 + 1, 2, none⟩ = some (.string ⟨#[]⟩) := by
  refine ⟨(Below.cell h.h (p := ⟨w0.heap.size + 1, 0, none⟩) (by simp)).trans ?_, (Below.cell h.h (p := ⟨w0.heap.size + 1, 1, none⟩) (by simp)).trans ?_, (Below.cell h.h (p := ⟨w0.heap.size + 1, 2, none⟩) (by simp)).trans ?_,
    (Below.cell h.h (p := ⟨w0.heap.size + 1 + 1 + 1, 0, none⟩) (by simp)).trans ?_, (Below.cell h.h (p := ⟨w0.heap.size + 1 + 1 + 1, 1, none⟩) (by simp)).trans ?_, (Below.cell h.h (p := ⟨w0.heap.size + 1 + 1 + 1, 2, none⟩) (by simp)).trans ?_⟩ <;> simp [go_sem]

theorem tmod_bd (a : Int) (k : Nat) (hk : 0 < k) : -(k : Int) < a.tmod k ∧ a.tmod k < k := by
  have h : (a.tmod k).natAbs < k := by
    rw [Int.natAbs_tmod]
    exact Nat.mod_lt _ (by simpa using hk)
  omega

set_option maxRecDepth 10000 in
set_option maxHeartbeats 400000 in
theorem sumsBack_any (a b : Int) (w : World) (ht : Pow10 w) :
    Calls Tryd.prog 8 #[.int .i64 a, .int .i64 b] w fun e w' => e = .returned (.bool true) ∧ Below w.heap.size w w' := by
  have bx := tmod_bd a 274877906944 (by omega)
  have by' := tmod_bd b 274877906944 (by omega)
  obtain ⟨x, hx⟩ : ∃ x, a.tmod 274877906944 = x := ⟨_, rfl⟩
  obtain ⟨y, hy⟩ : ∃ y, b.tmod 274877906944 = y := ⟨_, rfl⟩
  replace bx : -274877906944 < x ∧ x < 274877906944 := by rw [← hx]; exact bx
  replace by' : -274877906944 < y ∧ y < 274877906944 := by rw [← hy]; exact by'
  have HXE := Lib.hid hx
  have HYE := Lib.hid hy
  have HT := Lib.hid ht
  have kx : numOk x := ⟨by omega, by omega⟩
  have ky : numOk y := ⟨by omega, by omega⟩
  have ks : numOk (x + y) := ⟨by omega, by omega⟩
  have HC1 := Lib.hid fun w1 h => op_num_ok ⟨#[43]⟩ x y (x + y) (fun c j => opR_add c j x y) kx ky ks w1 h
  have HC2 := Lib.hid fun w1 h => op_num_ok ⟨#[45]⟩ (x + y) y x (fun c j => by rw [opR_sub, show x + y - y = x by omega]) ks ky kx w1 h
  generalize x + y = s at HC1 HC2
  by_cases hz : y = 0
  · have hq : (y == 0) = true := by simpa using hz
    have HC3 := Lib.hid fun w1 h => op_num_zero ⟨#[47]⟩ x y (fun c j => by rw [opR_div, if_pos hq]) kx ky w1 h
    have HC4 := Lib.hid fun w1 h => op_num_zero ⟨#[37]⟩ x y (fun c j => by rw [opR_rem, if_pos hq]) kx ky w1 h
    clear hx hy ht bx by' kx ky ks hz
    go_enter Tryd.func8, Tryd.ntmps8
    go_wp2_with (go_at_call 20; refine (number_any _ _).mono ?_; rintro e w2 ⟨rfl, rfl⟩)
    rw [HXE.out, HYE.out]
    refine (HC1.out _ (HT.out.mono XY.start.below)).mono ?_
    rintro e w1 ⟨rfl, hb⟩
    have B := XY.start.next hb
    clear hb
    have x0 := fun o => (B.alloc o).cells.1
    have x1 := fun o => (B.alloc o).cells.2.1
    have x2 := fun o => (B.alloc o).cells.2.2.1
    have y0 := fun o => (B.alloc o).cells.2.2.2.1
    have y1 := fun o => (B.alloc o).cells.2.2.2.2.1
    have y2 := fun o => (B.alloc o).cells.2.2.2.2.2
    go_wp2_with fail
    refine (HC2.out _ (HT.out.mono (B.alloc _).below)).mono ?_
    rintro e w2 ⟨rfl, hb⟩
    have B := (B.alloc _).next hb
    clear hb x0 x1 x2 y0 y1 y2
    have x0 := fun o => (B.alloc o).cells.1
    have x1 := fun o => (B.alloc o).cells.2.1
    have x2 := fun o => (B.alloc o).cells.2.2.1
    have y0 := fun o => (B.alloc o).cells.2.2.2.1
    have y1 := fun o => (B.alloc o).cells.2.2.2.2.1
    have y2 := fun o => (B.alloc o).cells.2.2.2.2.2
    go_wp2_with fail
    refine (HC3.out _ (HT.out.mono (B.alloc _).below)).mono ?_
    rintro e w3 ⟨rfl, hb⟩
    have D := boxw_start rfl hb
    have B := (B.alloc _).next hb
    clear hb x0 x1 x2 y0 y1 y2
    have x0 := fun o => (B.alloc o).cells.1
    have x1 := fun o => (B.alloc o).cells.2.1
    have x2 := fun o => (B.alloc o).cells.2.2.1
    have y0 := fun o => (B.alloc o).cells.2.2.2.1
    have y1 := fun o => (B.alloc o).cells.2.2.2.2.1
    have y2 := fun o => (B.alloc o).cells.2.2.2.2.2
    go_wp2_with fail
    refine (HC4.out _ (HT.out.mono (B.alloc _).below)).mono ?_
    rintro e w4 ⟨rfl, hb⟩
    have D := bxn D hb
    have B := (B.alloc _).next hb
    clear hb x0 x1 x2 y0 y1 y2
    have x0 := fun o => (B.alloc o).cells.1
    have x1 := fun o => (B.alloc o).cells.2.1
    have x2 := fun o => (B.alloc o).cells.2.2.1
    have y0 := fun o => (B.alloc o).cells.2.2.2.1
    have y1 := fun o => (B.alloc o).cells.2.2.2.2.1
    have y2 := fun o => (B.alloc o).cells.2.2.2.2.2
    have d0 := fun o => (boxo D o).1
    have d1 := fun o => (boxo D o).2.1
    have d2 := fun o => (boxo D o).2.2
    go_wp2_with fail
    go_ret
    exact ⟨ret_bool (by simp), (B.alloc _).below⟩
  · have hq : (y == 0) = false := by simpa using hz
    have b1 := tdiv_le x y
    have b2 := tmod_le x y
    have b3 := rem_eq x y
    have kq : numOk (x.tdiv y) := ⟨by omega, by omega⟩
    have km : numOk (x.tmod y) := ⟨by omega, by omega⟩
    have kp : numOk (x.tdiv y * y) := ⟨by omega, by omega⟩
    have HC3 := Lib.hid fun w1 h => op_num_ok ⟨#[47]⟩ x y (x.tdiv y) (fun c j => by rw [opR_div, hq]; rfl) kx ky kq w1 h
    have HC4 := Lib.hid fun w1 h => op_num_ok ⟨#[37]⟩ x y (x.tmod y) (fun c j => by rw [opR_rem, hq]; rfl) kx ky km w1 h
    have HC5 := Lib.hid fun w1 h => op_num_ok ⟨#[42]⟩ (x.tdiv y) y (x.tdiv y * y) (fun c j => opR_mul c j _ _) kq ky kp w1 h
    have HC6 := Lib.hid fun w1 h => op_num_ok ⟨#[43]⟩ (x.tdiv y * y) (x.tmod y) x (fun c j => by rw [opR_add, show x.tdiv y * y + x.tmod y = x by omega]) kp km kx w1 h
    clear hx hy ht bx by' kx ky ks hz b1 b2 b3 kq km kp
    generalize x.tdiv y * y = p at HC5 HC6
    generalize x.tmod y = m at HC4 HC6
    generalize x.tdiv y = q at HC3 HC5
    go_enter Tryd.func8, Tryd.ntmps8
    go_wp2_with (go_at_call 20; refine (number_any _ _).mono ?_; rintro e w2 ⟨rfl, rfl⟩)
    rw [HXE.out, HYE.out]
    refine (HC1.out _ (HT.out.mono XY.start.below)).mono ?_
    rintro e w1 ⟨rfl, hb⟩
    have B := XY.start.next hb
    clear hb
    have x0 := fun o => (B.alloc o).cells.1
    have x1 := fun o => (B.alloc o).cells.2.1
    have x2 := fun o => (B.alloc o).cells.2.2.1
    have y0 := fun o => (B.alloc o).cells.2.2.2.1
    have y1 := fun o => (B.alloc o).cells.2.2.2.2.1
    have y2 := fun o => (B.alloc o).cells.2.2.2.2.2
    go_wp2_with fail
    refine (HC2.out _ (HT.out.mono (B.alloc _).below)).mono ?_
    rintro e w2 ⟨rfl, hb⟩
    have B := (B.alloc _).next hb
    clear hb x0 x1 x2 y0 y1 y2
    have x0 := fun o => (B.alloc o).cells.1
    have x1 := fun o => (B.alloc o).cells.2.1
    have x2 := fun o => (B.alloc o).cells.2.2.1
    have y0 := fun o => (B.alloc o).cells.2.2.2.1
    have y1 := fun o => (B.alloc o).cells.2.2.2.2.1
    have y2 := fun o => (B.alloc o).cells.2.2.2.2.2
    go_wp2_with fail
    refine (HC3.out _ (HT.out.mono (B.alloc _).below)).mono ?_
    rintro e w3 ⟨rfl, hb⟩
    have D := boxw_start rfl hb
    have B := (B.alloc _).next hb
    clear hb x0 x1 x2 y0 y1 y2
    have x0 := fun o => (B.alloc o).cells.1
    have x1 := fun o => (B.alloc o).cells.2.1
    have x2 := fun o => (B.alloc o).cells.2.2.1
    have y0 := fun o => (B.alloc o).cells.2.2.2.1
    have y1 := fun o => (B.alloc o).cells.2.2.2.2.1
    have y2 := fun o => (B.alloc o).cells.2.2.2.2.2
    go_wp2_with fail
    refine (HC4.out _ (HT.out.mono (B.alloc _).below)).mono ?_
    rintro e w4 ⟨rfl, hb⟩
    have Q := boxw_start rfl hb
    have D := bxn D hb
    have B := (B.alloc _).next hb
    clear hb x0 x1 x2 y0 y1 y2
    have x0 := fun o => (B.alloc o).cells.1
    have x1 := fun o => (B.alloc o).cells.2.1
    have x2 := fun o => (B.alloc o).cells.2.2.1
    have y0 := fun o => (B.alloc o).cells.2.2.2.1
    have y1 := fun o => (B.alloc o).cells.2.2.2.2.1
    have y2 := fun o => (B.alloc o).cells.2.2.2.2.2
    have q0 := fun o => (boxo Q o).1
    have q1 := fun o => (boxo Q o).2.1
    have q2 := fun o => (boxo Q o).2.2
    go_wp2_with fail
    refine (HC5.out _ (HT.out.mono (B.alloc _).below)).mono ?_
    rintro e w5 ⟨rfl, hb⟩
    have M := boxw_start rfl hb
    have D := bxn D hb
    have B := (B.alloc _).next hb
    clear hb Q q0 q1 q2 x0 x1 x2 y0 y1 y2
    have x0 := fun o => (B.alloc o).cells.1
    have x1 := fun o => (B.alloc o).cells.2.1
    have x2 := fun o => (B.alloc o).cells.2.2.1
    have y0 := fun o => (B.alloc o).cells.2.2.2.1
    have y1 := fun o => (B.alloc o).cells.2.2.2.2.1
    have y2 := fun o => (B.alloc o).cells.2.2.2.2.2
    have m0 := fun o => (boxo M o).1
    have m1 := fun o => (boxo M o).2.1
    have m2 := fun o => (boxo M o).2.2
    go_wp2_with fail
    refine (HC6.out _ (HT.out.mono (B.alloc _).below)).mono ?_
    rintro e w6 ⟨rfl, hb⟩
    have D := bxn D hb
    have B := (B.alloc _).next hb
    clear hb M m0 m1 m2 x0 x1 x2 y0 y1 y2
    have x0 := fun o => (B.alloc o).cells.1
    have x1 := fun o => (B.alloc o).cells.2.1
    have x2 := fun o => (B.alloc o).cells.2.2.1
    have y0 := fun o => (B.alloc o).cells.2.2.2.1
    have y1 := fun o => (B.alloc o).cells.2.2.2.2.1
    have y2 := fun o => (B.alloc o).cells.2.2.2.2.2
    have d0 := fun o => (boxo D o).1
    have d1 := fun o => (boxo D o).2.1
    have d2 := fun o => (boxo D o).2.2
    go_wp2_with fail
    go_ret
    exact ⟨ret_bool (by simp), (B.alloc _).below⟩
end Go.Proofs.YtfnmepnbbeijhaaDoor
