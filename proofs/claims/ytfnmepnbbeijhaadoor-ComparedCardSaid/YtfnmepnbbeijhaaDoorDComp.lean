/- THE WALK of the law Compared. -/
import Derived.Test.YtfnmepnbbeijhaaDoorDSums
namespace Go.Proofs.YtfnmepnbbeijhaaDoor
open Go Go.RowKit

theorem opR_cmp {op : ByteArray} {c : Int} {b : Bool} (h : askAns op c = some b) (j : ByteArray) (x y : Option Int) : opR op (askAns op c) j x y = (false, askN (some b), ⟨#[]⟩, 0) := by
  rw [h]
  rfl

theorem ans_lt (c : Int) : askAns ⟨#[60]⟩ c = some (decide (c < 0)) := by
  unfold askAns
  rw [Lib.toList_data]
  rfl
theorem ans_le (c : Int) : askAns ⟨#[60, 61]⟩ c = some (decide (c ≤ 0)) := by
  unfold askAns
  rw [Lib.toList_data]
  rfl
theorem ans_eq (c : Int) : askAns ⟨#[61, 61]⟩ c = some (c == 0) := by
  unfold askAns
  rw [Lib.toList_data]
  rfl
theorem ans_ne (c : Int) : askAns ⟨#[33, 61]⟩ c = some (c != 0) := by
  unfold askAns
  rw [Lib.toList_data]
  rfl
theorem ans_gt (c : Int) : askAns ⟨#[62]⟩ c = some (decide (0 < c)) := by
  unfold askAns
  rw [Lib.toList_data]
  rfl

/-- A comparison of two values: its answer as a number. -/
theorem op_cmp (op : ByteArray) (ta : Bool) (na : Int) (sa : ByteArray) (tb : Bool) (nb : Int) (sb : ByteArray) (b : Bool) (h : askAns op (cmpOf ta na sa tb nb sb) = some b) (ha : numOk na) (hb : numOk nb) (hl : sa.size ≤ 1000000) (hl2 : sb.size ≤ 1000000) (w : World) (ht : Pow10 w) :
    Calls Tryd.prog 23 #[.string op, .agg #[.bool ta, .int .i64 na, .string sa], .agg #[.bool tb, .int .i64 nb, .string sb]] w fun e w' =>
    e = .returned (.tuple #[.agg #[.bool false, .int .i64 (askN (some b)), .string ⟨#[]⟩], .int .i64 0]) ∧ Below w.heap.size w w' := by
  have := op_any op ta na sa tb nb sb w ht ha hb hl hl2
  rw [opR_cmp h] at this
  exact this

/-- The boxes of two values and of three operators, in a later world. -/
structure Cmp (w w' : World) (bx bY bz : Nat) (X : Bool) (N : Int) (S Y : ByteArray) : Prop where
  kept : Below w.heap.size w w'
  lx : bx < w'.heap.size
  ly : bY < w'.heap.size
  lz : bz < w'.heap.size
  x0 : w'.cell? ⟨bx, 0, none⟩ = some (.bool X)
  x1 : w'.cell? ⟨bx, 1, none⟩ = some (.int .i64 N)
  x2 : w'.cell? ⟨bx, 2, none⟩ = some (.string S)
  y0 : w'.cell? ⟨bY, 0, none⟩ = some (.bool true)
  y1 : w'.cell? ⟨bY, 1, none⟩ = some (.int .i64 0)
  y2 : w'.cell? ⟨bY, 2, none⟩ = some (.string Y)
  z0 : w'.cell? ⟨bz, 0, none⟩ = some (.string ⟨#[60]⟩)
  z1 : w'.cell? ⟨bz, 1, none⟩ = some (.string ⟨#[61, 61]⟩)
  z2 : w'.cell? ⟨bz, 2, none⟩ = some (.string ⟨#[62]⟩)
theorem Cmp.next {w w1 w2 : World} {bx bY bz : Nat} {X : Bool} {N : Int} {S Y : ByteArray} (h : Cmp w w1 bx bY bz X N S Y) (h2 : Below w1.heap.size w1 w2) : Cmp w w2 bx bY bz X N S Y :=
  ⟨below_next h.kept h2 (Nat.le_refl _), Nat.lt_of_lt_of_le h.lx h2.size, Nat.lt_of_lt_of_le h.ly h2.size, Nat.lt_of_lt_of_le h.lz h2.size, (h2.cell (p := ⟨bx, 0, none⟩) h.lx).trans h.x0, (h2.cell (p := ⟨bx, 1, none⟩) h.lx).trans h.x1, (h2.cell (p := ⟨bx, 2, none⟩) h.lx).trans h.x2,
    (h2.cell (p := ⟨bY, 0, none⟩) h.ly).trans h.y0, (h2.cell (p := ⟨bY, 1, none⟩) h.ly).trans h.y1, (h2.cell (p := ⟨bY, 2, none⟩) h.ly).trans h.y2, (h2.cell (p := ⟨bz, 0, none⟩) h.lz).trans h.z0, (h2.cell (p := ⟨bz, 1, none⟩) h.lz).trans h.z1, (h2.cell (p := ⟨bz, 2, none⟩) h.lz).trans h.z2⟩
theorem Cmp.alloc {w w1 : World} {bx bY bz : Nat} {X : Bool} {N : Int} {S Y : ByteArray} (h : Cmp w w1 bx bY bz X N S Y) (o : Obj) : Cmp w (w1.alloc o) bx bY bz X N S Y := h.next ((Below.refl _ _).alloc (Nat.le_refl _) o)

/-- What the loop has added up. -/
def part (A B C : Int) : Nat → Int
  | 0 => 0
  | 1 => A
  | 2 => A + B
  | _ => A + B + C

theorem ask_sums (c : Int) : askN (some (decide (c < 0))) + askN (some (c == 0)) + askN (some (decide (0 < c))) = 1 ∧ askN (some (decide (c ≤ 0))) + askN (some (decide (0 < c))) = 1 ∧ askN (some (c == 0)) + askN (some (c != 0)) = 1 := by
  rcases (show c < 0 ∨ c = 0 ∨ 0 < c by omega) with h | h | h
  · have h1 : ¬ c = 0 := by omega
    have h2 : ¬ 0 < c := by omega
    have h3 : c ≤ 0 := by omega
    simp [askN, h, h1, h2, h3]
  · subst h
    decide
  · have h1 : ¬ c = 0 := by omega
    have h2 : ¬ c < 0 := by omega
    have h3 : ¬ c ≤ 0 := by omega
    simp [askN, h, h1, h2, h3]

theorem askN_bd (o : Option Bool) : 0 ≤ askN o ∧ askN o ≤ 1 := by
  unfold askN
  split <;> omega

set_option maxRecDepth 10000 in
set_option maxHeartbeats 1000000 in
theorem compared_num (a : Int) (s t : ByteArray) (w : World) (ht : Pow10 w) :
    Calls Tryd.prog 9 #[.int .i64 a, .string s, .string t, .bool false] w fun e w' => e = .returned (.bool true) ∧ Below w.heap.size w w' := by
  have g3 : 0 ≤ min (t.size : Int) 50 := by omega
  have g4 : min (t.size : Int) 50 ≤ t.size := by omega
  have lt : (t.extract 0 (min (t.size : Int) 50).toNat).size ≤ 1000000 := by
    rw [ByteArray.size_extract]
    omega
  have bk : -1099511627776 < a.tmod 1099511627776 ∧ a.tmod 1099511627776 < 1099511627776 := tmod_bd a 1099511627776 (by omega)
  have k1 : numOk (a.tmod 1099511627776) := ⟨by omega, by omega⟩
  have HT := Lib.hid ht
  have k2 : numOk 0 := ⟨by omega, by omega⟩
  obtain ⟨c, hc⟩ : ∃ c, cmpOf false (a.tmod 1099511627776) ⟨#[]⟩ true 0 (t.extract 0 (min (t.size : Int) 50).toNat) = c := ⟨_, rfl⟩
  have C0 := fun w1 h => op_cmp ⟨#[60]⟩ false (a.tmod 1099511627776) ⟨#[]⟩ true 0 (t.extract 0 (min (t.size : Int) 50).toNat) _ (ans_lt _) k1 k2 (by decide) lt w1 h
  rw [hc] at C0
  have C1 := fun w1 h => op_cmp ⟨#[61, 61]⟩ false (a.tmod 1099511627776) ⟨#[]⟩ true 0 (t.extract 0 (min (t.size : Int) 50).toNat) _ (ans_eq _) k1 k2 (by decide) lt w1 h
  rw [hc] at C1
  have C2 := fun w1 h => op_cmp ⟨#[62]⟩ false (a.tmod 1099511627776) ⟨#[]⟩ true 0 (t.extract 0 (min (t.size : Int) 50).toNat) _ (ans_gt _) k1 k2 (by decide) lt w1 h
  rw [hc] at C2
  have C3 := fun w1 h => op_cmp ⟨#[60, 61]⟩ false (a.tmod 1099511627776) ⟨#[]⟩ true 0 (t.extract 0 (min (t.size : Int) 50).toNat) _ (ans_le _) k1 k2 (by decide) lt w1 h
  rw [hc] at C3
  have C4 := fun w1 h => op_cmp ⟨#[33, 61]⟩ false (a.tmod 1099511627776) ⟨#[]⟩ true 0 (t.extract 0 (min (t.size : Int) 50).toNat) _ (ans_ne _) k1 k2 (by decide) lt w1 h
  rw [hc] at C4
  obtain ⟨A, hA⟩ : ∃ A, askN (some (decide (c < 0))) = A := ⟨_, rfl⟩
  obtain ⟨B, hB⟩ : ∃ B, askN (some (c == 0)) = B := ⟨_, rfl⟩
  obtain ⟨C, hC⟩ : ∃ C, askN (some (decide (0 < c))) = C := ⟨_, rfl⟩
  obtain ⟨D, hD⟩ : ∃ D, askN (some (decide (c ≤ 0))) = D := ⟨_, rfl⟩
  obtain ⟨E, hE⟩ : ∃ E, askN (some (c != 0)) = E := ⟨_, rfl⟩
  rw [hA] at C0
  rw [hB] at C1
  rw [hC] at C2
  rw [hD] at C3
  rw [hE] at C4
  have HC0 := Lib.hid C0
  have HC1 := Lib.hid C1
  have HC2 := Lib.hid C2
  have HC3 := Lib.hid C3
  have HC4 := Lib.hid C4
  obtain ⟨s1, s2, s3⟩ := ask_sums c
  rw [hA, hB, hC] at s1
  rw [hD, hC] at s2
  rw [hB, hE] at s3
  obtain ⟨a0, a1⟩ := askN_bd (some (decide (c < 0)))
  obtain ⟨b0, b1⟩ := askN_bd (some (c == 0))
  rw [hA] at a0 a1
  rw [hB] at b0 b1
  clear hA hB hC hD hE hc C0 C1 C2 C3 C4 k2 lt ht bk k1
  go_enter Tryd.func9, Tryd.ntmps9
  go_wp2_with (first | (go_at_call 20; refine (number_any _ _).mono ?_; rintro e w2 ⟨rfl, rfl⟩) | (go_at_call 19; refine (text_any _ _).mono ?_; rintro e w2 ⟨rfl, rfl⟩))
  go_loopw [11, 42] (fun n i wx => ∃ k : Nat, k ≤ 3 ∧ i = .int .i64 k ∧ n = .int .i64 (part A B C k) ∧ Cmp w wx (w.heap.size + 1) (w.heap.size + 1 + 1 + 1) (w.heap.size + 1 + 1 + 1 + 1) false (a.tmod 1099511627776) ⟨#[]⟩ (t.extract 0 (min (t.size : Int) 50).toNat)) (fun _ i _ => 3 - (intOf i).toNat)
  case atStart => exact ⟨0, by omega, rfl, rfl, ⟨(((((Below.refl _ _).alloc (Nat.le_refl _) _).alloc (by simp) _).alloc (by simp <;> omega) _).alloc (by simp <;> omega) _).alloc (by simp <;> omega) _, by simp <;> omega, by simp, by simp, by simp [go_sem], by simp [go_sem], by simp [go_sem], by simp [go_sem], by simp [go_sem], by simp [go_sem], by simp [go_sem], by simp [go_sem], by simp [go_sem]⟩⟩
  case round =>
    obtain ⟨k, hk, rfl, rfl, HK⟩ := hrel
    have x0 := HK.x0
    have x1 := HK.x1
    have x2 := HK.x2
    have y0 := HK.y0
    have y1 := HK.y1
    have y2 := HK.y2
    have z0 := HK.z0
    have z1 := HK.z1
    have z2 := HK.z2
    rcases (show k = 0 ∨ k = 1 ∨ k = 2 ∨ k = 3 by omega) with rfl | rfl | rfl | rfl
    · simp only [part]
      go_wp2_with fail
      refine (HC0.out _ (HT.out.mono HK.kept)).mono ?_
      rintro e w1 ⟨rfl, hb⟩
      have HK := HK.next hb
      clear hb x0 x1 x2 y0 y1 y2 z0 z1 z2
      go_wp2_with fail
      go_roundw
      case rel => exact ⟨1, by omega, rfl, rfl, HK.alloc _⟩
      case measure => simp [intOf]
    · simp only [part]
      go_wp2_with fail
      refine (HC1.out _ (HT.out.mono HK.kept)).mono ?_
      rintro e w1 ⟨rfl, hb⟩
      have HK := HK.next hb
      clear hb x0 x1 x2 y0 y1 y2 z0 z1 z2
      go_wp2_with fail
      go_roundw
      case rel => exact ⟨2, by omega, rfl, rfl, HK.alloc _⟩
      case measure => simp [intOf]
    · simp only [part]
      go_wp2_with fail
      refine (HC2.out _ (HT.out.mono HK.kept)).mono ?_
      rintro e w1 ⟨rfl, hb⟩
      have HK := HK.next hb
      clear hb x0 x1 x2 y0 y1 y2 z0 z1 z2
      go_wp2_with fail
      go_roundw
      case rel => exact ⟨3, by omega, rfl, congrArg (Value.int .i64) (show (1 : Int) = part A B C 3 from s1.symm), HK.alloc _⟩
      case measure => simp [intOf]
    · clear z0 z1 z2
      rw [show part A B C 3 = 1 from s1]
      go_wp2_with fail
      refine (HC3.out _ (HT.out.mono HK.kept)).mono ?_
      rintro e w1 ⟨rfl, hb⟩
      have HK := HK.next hb
      clear hb x0 x1 x2 y0 y1 y2
      have x0 := fun o => (HK.alloc o).x0
      have x1 := fun o => (HK.alloc o).x1
      have x2 := fun o => (HK.alloc o).x2
      have y0 := fun o => (HK.alloc o).y0
      have y1 := fun o => (HK.alloc o).y1
      have y2 := fun o => (HK.alloc o).y2
      go_wp2_with fail
      refine (HC2.out _ (HT.out.mono (HK.alloc _).kept)).mono ?_
      rintro e w2 ⟨rfl, hb⟩
      have LE := boxw_start rfl hb
      have HK := (HK.alloc _).next hb
      clear hb x0 x1 x2 y0 y1 y2
      have x0 := fun o => (HK.alloc o).x0
      have x1 := fun o => (HK.alloc o).x1
      have x2 := fun o => (HK.alloc o).x2
      have y0 := fun o => (HK.alloc o).y0
      have y1 := fun o => (HK.alloc o).y1
      have y2 := fun o => (HK.alloc o).y2
      go_wp2_with fail
      refine (HC1.out _ (HT.out.mono (HK.alloc _).kept)).mono ?_
      rintro e w3 ⟨rfl, hb⟩
      have GT := boxw_start rfl hb
      have LE := bxn LE hb
      have HK := (HK.alloc _).next hb
      clear hb x0 x1 x2 y0 y1 y2
      have x0 := fun o => (HK.alloc o).x0
      have x1 := fun o => (HK.alloc o).x1
      have x2 := fun o => (HK.alloc o).x2
      have y0 := fun o => (HK.alloc o).y0
      have y1 := fun o => (HK.alloc o).y1
      have y2 := fun o => (HK.alloc o).y2
      go_wp2_with fail
      refine (HC4.out _ (HT.out.mono (HK.alloc _).kept)).mono ?_
      rintro e w4 ⟨rfl, hb⟩
      have EQ := boxw_start rfl hb
      have GT := bxn GT hb
      have LE := bxn LE hb
      have HK := (HK.alloc _).next hb
      clear hb x0 x1 x2 y0 y1 y2
      have p0 := fun o => (boxo LE o).1
      have p1 := fun o => (boxo LE o).2.1
      have p2 := fun o => (boxo LE o).2.2
      have q0 := fun o => (boxo GT o).1
      have q1 := fun o => (boxo GT o).2.1
      have q2 := fun o => (boxo GT o).2.2
      have r0 := fun o => (boxo EQ o).1
      have r1 := fun o => (boxo EQ o).2.1
      have r2 := fun o => (boxo EQ o).2.2
      go_wp2_with fail
      go_ret
      exact ⟨ret_bool (by simp), (HK.alloc _).kept⟩

set_option maxRecDepth 10000 in
set_option maxHeartbeats 1000000 in
theorem compared_text (a : Int) (s t : ByteArray) (w : World) (ht : Pow10 w) :
    Calls Tryd.prog 9 #[.int .i64 a, .string s, .string t, .bool true] w fun e w' => e = .returned (.bool true) ∧ Below w.heap.size w w' := by
  have g3 : 0 ≤ min (t.size : Int) 50 := by omega
  have g4 : min (t.size : Int) 50 ≤ t.size := by omega
  have lt : (t.extract 0 (min (t.size : Int) 50).toNat).size ≤ 1000000 := by
    rw [ByteArray.size_extract]
    omega
  have g1 : 0 ≤ min (s.size : Int) 50 := by omega
  have g2 : min (s.size : Int) 50 ≤ s.size := by omega
  have ls : (s.extract 0 (min (s.size : Int) 50).toNat).size ≤ 1000000 := by
    rw [ByteArray.size_extract]
    omega
  have HT := Lib.hid ht
  have k2 : numOk 0 := ⟨by omega, by omega⟩
  obtain ⟨c, hc⟩ : ∃ c, cmpOf true 0 (s.extract 0 (min (s.size : Int) 50).toNat) true 0 (t.extract 0 (min (t.size : Int) 50).toNat) = c := ⟨_, rfl⟩
  have C0 := fun w1 h => op_cmp ⟨#[60]⟩ true 0 (s.extract 0 (min (s.size : Int) 50).toNat) true 0 (t.extract 0 (min (t.size : Int) 50).toNat) _ (ans_lt _) k2 k2 ls lt w1 h
  rw [hc] at C0
  have C1 := fun w1 h => op_cmp ⟨#[61, 61]⟩ true 0 (s.extract 0 (min (s.size : Int) 50).toNat) true 0 (t.extract 0 (min (t.size : Int) 50).toNat) _ (ans_eq _) k2 k2 ls lt w1 h
  rw [hc] at C1
  have C2 := fun w1 h => op_cmp ⟨#[62]⟩ true 0 (s.extract 0 (min (s.size : Int) 50).toNat) true 0 (t.extract 0 (min (t.size : Int) 50).toNat) _ (ans_gt _) k2 k2 ls lt w1 h
  rw [hc] at C2
  have C3 := fun w1 h => op_cmp ⟨#[60, 61]⟩ true 0 (s.extract 0 (min (s.size : Int) 50).toNat) true 0 (t.extract 0 (min (t.size : Int) 50).toNat) _ (ans_le _) k2 k2 ls lt w1 h
  rw [hc] at C3
  have C4 := fun w1 h => op_cmp ⟨#[33, 61]⟩ true 0 (s.extract 0 (min (s.size : Int) 50).toNat) true 0 (t.extract 0 (min (t.size : Int) 50).toNat) _ (ans_ne _) k2 k2 ls lt w1 h
  rw [hc] at C4
  obtain ⟨A, hA⟩ : ∃ A, askN (some (decide (c < 0))) = A := ⟨_, rfl⟩
  obtain ⟨B, hB⟩ : ∃ B, askN (some (c == 0)) = B := ⟨_, rfl⟩
  obtain ⟨C, hC⟩ : ∃ C, askN (some (decide (0 < c))) = C := ⟨_, rfl⟩
  obtain ⟨D, hD⟩ : ∃ D, askN (some (decide (c ≤ 0))) = D := ⟨_, rfl⟩
  obtain ⟨E, hE⟩ : ∃ E, askN (some (c != 0)) = E := ⟨_, rfl⟩
  rw [hA] at C0
  rw [hB] at C1
  rw [hC] at C2
  rw [hD] at C3
  rw [hE] at C4
  have HC0 := Lib.hid C0
  have HC1 := Lib.hid C1
  have HC2 := Lib.hid C2
  have HC3 := Lib.hid C3
  have HC4 := Lib.hid C4
  obtain ⟨s1, s2, s3⟩ := ask_sums c
  rw [hA, hB, hC] at s1
  rw [hD, hC] at s2
  rw [hB, hE] at s3
  obtain ⟨a0, a1⟩ := askN_bd (some (decide (c < 0)))
  obtain ⟨b0, b1⟩ := askN_bd (some (c == 0))
  rw [hA] at a0 a1
  rw [hB] at b0 b1
  clear hA hB hC hD hE hc C0 C1 C2 C3 C4 k2 lt ht ls
  go_enter Tryd.func9, Tryd.ntmps9
  go_wp2_with (first | (go_at_call 20; refine (number_any _ _).mono ?_; rintro e w2 ⟨rfl, rfl⟩) | (go_at_call 19; refine (text_any _ _).mono ?_; rintro e w2 ⟨rfl, rfl⟩))
  go_loopw [11, 42] (fun n i wx => ∃ k : Nat, k ≤ 3 ∧ i = .int .i64 k ∧ n = .int .i64 (part A B C k) ∧ Cmp w wx (w.heap.size + 1) (w.heap.size + 1 + 1 + 1 + 1) (w.heap.size + 1 + 1 + 1 + 1 + 1) true 0 (s.extract 0 (min (s.size : Int) 50).toNat) (t.extract 0 (min (t.size : Int) 50).toNat)) (fun _ i _ => 3 - (intOf i).toNat)
  case atStart => exact ⟨0, by omega, rfl, rfl, ⟨((((((Below.refl _ _).alloc (Nat.le_refl _) _).alloc (by simp) _).alloc (by simp <;> omega) _).alloc (by simp <;> omega) _).alloc (by simp <;> omega) _).alloc (by simp <;> omega) _, by simp <;> omega, by simp, by simp, by simp [go_sem], by simp [go_sem], by simp [go_sem], by simp [go_sem], by simp [go_sem], by simp [go_sem], by simp [go_sem], by simp [go_sem], by simp [go_sem]⟩⟩
  case round =>
    obtain ⟨k, hk, rfl, rfl, HK⟩ := hrel
    have x0 := HK.x0
    have x1 := HK.x1
    have x2 := HK.x2
    have y0 := HK.y0
    have y1 := HK.y1
    have y2 := HK.y2
    have z0 := HK.z0
    have z1 := HK.z1
    have z2 := HK.z2
    rcases (show k = 0 ∨ k = 1 ∨ k = 2 ∨ k = 3 by omega) with rfl | rfl | rfl | rfl
    · simp only [part]
      go_wp2_with fail
      refine (HC0.out _ (HT.out.mono HK.kept)).mono ?_
      rintro e w1 ⟨rfl, hb⟩
      have HK := HK.next hb
      clear hb x0 x1 x2 y0 y1 y2 z0 z1 z2
      go_wp2_with fail
      go_roundw
      case rel => exact ⟨1, by omega, rfl, rfl, HK.alloc _⟩
      case measure => simp [intOf]
    · simp only [part]
      go_wp2_with fail
      refine (HC1.out _ (HT.out.mono HK.kept)).mono ?_
      rintro e w1 ⟨rfl, hb⟩
      have HK := HK.next hb
      clear hb x0 x1 x2 y0 y1 y2 z0 z1 z2
      go_wp2_with fail
      go_roundw
      case rel => exact ⟨2, by omega, rfl, rfl, HK.alloc _⟩
      case measure => simp [intOf]
    · simp only [part]
      go_wp2_with fail
      refine (HC2.out _ (HT.out.mono HK.kept)).mono ?_
      rintro e w1 ⟨rfl, hb⟩
      have HK := HK.next hb
      clear hb x0 x1 x2 y0 y1 y2 z0 z1 z2
      go_wp2_with fail
      go_roundw
      case rel => exact ⟨3, by omega, rfl, congrArg (Value.int .i64) (show (1 : Int) = part A B C 3 from s1.symm), HK.alloc _⟩
      case measure => simp [intOf]
    · clear z0 z1 z2
      rw [show part A B C 3 = 1 from s1]
      go_wp2_with fail
      refine (HC3.out _ (HT.out.mono HK.kept)).mono ?_
      rintro e w1 ⟨rfl, hb⟩
      have HK := HK.next hb
      clear hb x0 x1 x2 y0 y1 y2
      have x0 := fun o => (HK.alloc o).x0
      have x1 := fun o => (HK.alloc o).x1
      have x2 := fun o => (HK.alloc o).x2
      have y0 := fun o => (HK.alloc o).y0
      have y1 := fun o => (HK.alloc o).y1
      have y2 := fun o => (HK.alloc o).y2
      go_wp2_with fail
      refine (HC2.out _ (HT.out.mono (HK.alloc _).kept)).mono ?_
      rintro e w2 ⟨rfl, hb⟩
      have LE := boxw_start rfl hb
      have HK := (HK.alloc _).next hb
      clear hb x0 x1 x2 y0 y1 y2
      have x0 := fun o => (HK.alloc o).x0
      have x1 := fun o => (HK.alloc o).x1
      have x2 := fun o => (HK.alloc o).x2
      have y0 := fun o => (HK.alloc o).y0
      have y1 := fun o => (HK.alloc o).y1
      have y2 := fun o => (HK.alloc o).y2
      go_wp2_with fail
      refine (HC1.out _ (HT.out.mono (HK.alloc _).kept)).mono ?_
      rintro e w3 ⟨rfl, hb⟩
      have GT := boxw_start rfl hb
      have LE := bxn LE hb
      have HK := (HK.alloc _).next hb
      clear hb x0 x1 x2 y0 y1 y2
      have x0 := fun o => (HK.alloc o).x0
      have x1 := fun o => (HK.alloc o).x1
      have x2 := fun o => (HK.alloc o).x2
      have y0 := fun o => (HK.alloc o).y0
      have y1 := fun o => (HK.alloc o).y1
      have y2 := fun o => (HK.alloc o).y2
      go_wp2_with fail
      refine (HC4.out _ (HT.out.mono (HK.alloc _).kept)).mono ?_
      rintro e w4 ⟨rfl, hb⟩
      have EQ := boxw_start rfl hb
      have GT := bxn GT hb
      have LE := bxn LE hb
      have HK := (HK.alloc _).next hb
      clear hb x0 x1 x2 y0 y1 y2
      have p0 := fun o => (boxo LE o).1
      have p1 := fun o => (boxo LE o).2.1
      have p2 := fun o => (boxo LE o).2.2
      have q0 := fun o => (boxo GT o).1
      have q1 := fun o => (boxo GT o).2.1
      have q2 := fun o => (boxo GT o).2.2
      have r0 := fun o => (boxo EQ o).1
      have r1 := fun o => (boxo EQ o).2.1
      have r2 := fun o => (boxo EQ o).2.2
      go_wp2_with fail
      go_ret
      exact ⟨ret_bool (by simp), (HK.alloc _).kept⟩

theorem compared_any (a : Int) (s t : ByteArray) (text : Bool) (w : World) (ht : Pow10 w) :
    Calls Tryd.prog 9 #[.int .i64 a, .string s, .string t, .bool text] w fun e w' => e = .returned (.bool true) ∧ Below w.heap.size w w' := by
  cases text
  · exact compared_num a s t w ht
  · exact compared_text a s t w ht
end Go.Proofs.YtfnmepnbbeijhaaDoor
