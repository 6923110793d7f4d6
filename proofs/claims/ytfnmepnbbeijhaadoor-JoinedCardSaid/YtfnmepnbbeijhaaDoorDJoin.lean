/- THE WALK of the law Joined. -/
import Derived.Test.YtfnmepnbbeijhaaDoorDCallS
import Derived.Deep.DeepCutAuto
namespace Go.Proofs.YtfnmepnbbeijhaaDoor
open Go Go.RowKit

theorem index_occ : ∀ (s sub : List UInt8) (i : Nat), i ≤ s.length → Lib.occAt s sub i = true → 0 ≤ Lib.index s sub ∧ Lib.index s sub ≤ i
  | [], sub, i, hi, h => by
    have hi0 : i = 0 := by simpa using hi
    subst hi0
    have : sub = [] := by
      unfold Lib.occAt at h
      cases sub with
      | nil => rfl
      | cons c r => simp at h
    subst this
    exact ⟨Int.le_refl _, Int.le_refl _⟩
  | b :: l, sub, i, hi, h => by
    unfold Lib.index
    split
    · exact ⟨Int.le_refl _, by omega⟩
    · rename_i hp
      cases i with
      | zero => exact absurd h hp
      | succ k =>
        have ih := index_occ l sub k (by simpa using hi) h
        have hne : (Lib.index l sub == -1) = false := by
          rw [beq_eq_false_iff_ne]
          omega
        rw [hne]
        simp only [Bool.false_eq_true, if_false]
        omega

theorem opR_dots (c : Int) (j : ByteArray) (x y : Option Int) (h : j.size ≤ 200) : opR ⟨#[46, 46]⟩ (askAns ⟨#[46, 46]⟩ c) j x y = (true, 0, j, 0) := by
  have e : askAns ⟨#[46, 46]⟩ c = none := by
    unfold askAns
    rw [Lib.toList_data]
    rfl
  rw [e]
  unfold opR
  dsimp only
  rw [Lib.toList_data, if_pos (by decide), if_pos h]

theorem ext_data (s : ByteArray) (a b : Nat) : (s.extract a b).data.toList = (s.data.toList.drop a).take (b - a) := by
  rw [ByteArray.data_extract, Array.toList_extract]

theorem join_left (A B : ByteArray) : (A ++ B).extract 0 A.size = A := by
  apply ByteArray.ext
  apply Array.toList_inj.1
  rw [ext_data, ByteArray.data_append, Array.toList_append, List.drop_zero, Lib.size_eq]
  simp
theorem join_right (A B : ByteArray) : (A ++ B).extract A.size (A ++ B).size = B := by
  apply ByteArray.ext
  apply Array.toList_inj.1
  rw [ext_data, two_data, ByteArray.data_append, Array.toList_append, Lib.size_eq, Lib.size_eq, List.drop_left, Nat.add_sub_cancel_left, List.take_length]
theorem join_occ (A B : ByteArray) : Lib.occAt (A ++ B).data.toList B.data.toList A.size = true := by
  unfold Lib.occAt
  rw [ByteArray.data_append, Array.toList_append, Lib.size_eq, List.drop_left]
  exact List.isPrefixOf_iff_prefix.2 (List.prefix_refl _)

/-- The boxes of two texts, each made and then kept, in a later world. -/
structure AB (w0 w' : World) (A B : ByteArray) (T : TypeId) : Prop where
  h : Below (w0.heap.size + 1 + 1 + 1 + 1) ((((w0.alloc (.cells #[.bool true, .int .i64 0, .string A] T)).alloc (.cells #[.bool true, .int .i64 0, .string A] T)).alloc (.cells #[.bool true, .int .i64 0, .string B] T)).alloc (.cells #[.bool true, .int .i64 0, .string B] T)) w'
theorem AB.start {w0 : World} {A B : ByteArray} {T : TypeId} : AB w0 ((((w0.alloc (.cells #[.bool true, .int .i64 0, .string A] T)).alloc (.cells #[.bool true, .int .i64 0, .string A] T)).alloc (.cells #[.bool true, .int .i64 0, .string B] T)).alloc (.cells #[.bool true, .int .i64 0, .string B] T)) A B T := ⟨Below.refl _ _⟩
theorem AB.next {w0 w1 w2 : World} {A B : ByteArray} {T : TypeId} (h : AB w0 w1 A B T) (h2 : Below w1.heap.size w1 w2) : AB w0 w2 A B T := ⟨below_next h.h h2 (by simp)⟩
theorem AB.alloc {w0 w1 : World} {A B : ByteArray} {T : TypeId} (h : AB w0 w1 A B T) (o : Obj) : AB w0 (w1.alloc o) A B T := h.next ((Below.refl _ _).alloc (Nat.le_refl _) o)
theorem AB.below {w0 w1 : World} {A B : ByteArray} {T : TypeId} (h : AB w0 w1 A B T) : Below w0.heap.size w0 w1 :=
  (((((Below.refl _ _).alloc (Nat.le_refl _) _).alloc (by simp) _).alloc (by simp; omega) _).alloc (by simp; omega) _).trans (h.h.mono (by omega))
theorem AB.cells {w0 w1 : World} {A B : ByteArray} {T : TypeId} (h : AB w0 w1 A B T) :
    w1.cell? ⟨w0.heap.size + 1, 0, none⟩ = some (.bool true) ∧ w1.cell? ⟨w0.heap.size + 1, 1, none⟩ = some (.int .i64 0) ∧ w1.cell? ⟨w0.heap.size + 1, 2, none⟩ = some (.string A) ∧
    w1.cell? ⟨w0.heap.size + 1 + 1 + 1, 0, none⟩ = some (.bool true) ∧ w1.cell? ⟨w0.heap.size + 1 + 1 + 1, 1, none⟩ = some (.int .i64 0) ∧ w1.cell? ⟨w0.heap.size + 1 + 1 + 1, 2, none⟩ = some (.string B) := by
  refine ⟨(Below.cell h.h (p := ⟨w0.heap.size + 1, 0, none⟩) (by simp)).trans ?_, (Below.cell h.h (p := ⟨w0.heap.size + 1, 1, none⟩) (by simp)).trans ?_, (Below.cell h.h (p := ⟨w0.heap.size + 1, 2, none⟩) (by simp)).trans ?_,
    (Below.cell h.h (p := ⟨w0.heap.size + 1 + 1 + 1, 0, none⟩) (by simp)).trans ?_, (Below.cell h.h (p := ⟨w0.heap.size + 1 + 1 + 1, 1, none⟩) (by simp)).trans ?_, (Below.cell h.h (p := ⟨w0.heap.size + 1 + 1 + 1, 2, none⟩) (by simp)).trans ?_⟩ <;> simp [go_sem]

/-- A box that was made, in a later world. -/
structure Bx (w' : World) (g : Nat) (t : Bool) (k : Int) (s : ByteArray) : Prop where
  lt : g < w'.heap.size
  c0 : w'.cell? ⟨g, 0, none⟩ = some (.bool t)
  c1 : w'.cell? ⟨g, 1, none⟩ = some (.int .i64 k)
  c2 : w'.cell? ⟨g, 2, none⟩ = some (.string s)
theorem Bx.next {w1 w2 : World} {g : Nat} {t : Bool} {k : Int} {s : ByteArray} (h : Bx w1 g t k s) (h2 : Below w1.heap.size w1 w2) : Bx w2 g t k s :=
  ⟨Nat.lt_of_lt_of_le h.lt h2.size, (h2.cell (p := ⟨g, 0, none⟩) h.lt).trans h.c0, (h2.cell (p := ⟨g, 1, none⟩) h.lt).trans h.c1, (h2.cell (p := ⟨g, 2, none⟩) h.lt).trans h.c2⟩

/-- What Joined has laid ahead of its substr calls. -/
structure J1 (w w' : World) (A B : ByteArray) (T : TypeId) (c n : Nat) : Prop where
  ab : AB w w' A B T
  cx : Bx w' c true 0 (A ++ B)
  nx : Bx w' n false ((A.size : Int) + B.size) ⟨#[]⟩
theorem J1.next {w w1 w2 : World} {A B : ByteArray} {T : TypeId} {c n : Nat} (h : J1 w w1 A B T c n) (h2 : Below w1.heap.size w1 w2) : J1 w w2 A B T c n := ⟨h.ab.next h2, h.cx.next h2, h.nx.next h2⟩
theorem J1.cells {w w1 : World} {A B : ByteArray} {T : TypeId} {c n : Nat} (h : J1 w w1 A B T c n) :
    w1.cell? ⟨w.heap.size + 1, 2, none⟩ = some (.string A) ∧ w1.cell? ⟨c, 0, none⟩ = some (.bool true) ∧ w1.cell? ⟨c, 1, none⟩ = some (.int .i64 0) ∧ w1.cell? ⟨c, 2, none⟩ = some (.string (A ++ B)) :=
  ⟨h.ab.cells.2.2.1, h.cx.c0, h.cx.c1, h.cx.c2⟩

/-- What lay in W0 lies there still. -/
structure Kp (W0 w' : World) : Prop where
  h : Below W0.heap.size W0 w'
theorem Kp.start {W0 : World} : Kp W0 W0 := ⟨Below.refl _ _⟩
theorem Kp.startd {W0 : World} : Kp W0 W0.drew := ⟨(Below.refl _ _).drew⟩
theorem Kp.alloc {W0 w : World} (h : Kp W0 w) (o : Obj) : Kp W0 (w.alloc o) := ⟨h.h.alloc h.h.size o⟩
theorem Kp.drew {W0 w : World} (h : Kp W0 w) : Kp W0 w.drew := ⟨h.h.drew⟩
theorem Kp.next {W0 w w' : World} (h : Kp W0 w) (h2 : Below w.heap.size w w') : Kp W0 w' := ⟨h.h.trans (h2.mono h.h.size)⟩
theorem Kp.cells {w W0 w1 : World} {A B : ByteArray} {T : TypeId} {c n : Nat} (h : Kp W0 w1) (k : J1 w W0 A B T c n) :
    (w1.cell? ⟨w.heap.size + 1, 2, none⟩ = some (.string A) ∧ w1.cell? ⟨c, 0, none⟩ = some (.bool true) ∧ w1.cell? ⟨c, 1, none⟩ = some (.int .i64 0) ∧ w1.cell? ⟨c, 2, none⟩ = some (.string (A ++ B))) ∧ Kp W0 w1 :=
  ⟨(k.next h.h).cells, h⟩

theorem Kp.setCell {W0 w : World} (h : Kp W0 w) (p : Addr) (v : Value) (hp : W0.heap.size ≤ p.block) : Kp W0 (w.setCell p v) := ⟨h.h.setCell hp v⟩
/-- A new box that lay ahead of a call lies there behind it. -/
theorem box_over {Q : Prop} {W w' : World} (g : Nat) (h : Below W.heap.size W w')
    (c : g < W.heap.size ∧ (W.cell? ⟨g, 0, none⟩ = some (.bool false) ∧ W.cell? ⟨g, 1, none⟩ = some (.int .i64 0) ∧ W.cell? ⟨g, 2, none⟩ = some (.string ⟨#[]⟩)) ∧ W.frozen? ⟨g, 0, none⟩ = false ∧ W.frozen? ⟨g, 1, none⟩ = false ∧ W.frozen? ⟨g, 2, none⟩ = false)
    (k : (w'.cell? ⟨g, 0, none⟩ = some (.bool false) ∧ w'.cell? ⟨g, 1, none⟩ = some (.int .i64 0) ∧ w'.cell? ⟨g, 2, none⟩ = some (.string ⟨#[]⟩)) ∧
    (w'.frozen? ⟨g, 0, none⟩ = false ∧ w'.frozen? ⟨g, 1, none⟩ = false ∧ w'.frozen? ⟨g, 2, none⟩ = false) ∧ g < w'.heap.size → Q) : Q :=
  k ⟨⟨(h.cell (p := ⟨g, 0, none⟩) c.1).trans c.2.1.1, (h.cell (p := ⟨g, 1, none⟩) c.1).trans c.2.1.2.1, (h.cell (p := ⟨g, 2, none⟩) c.1).trans c.2.1.2.2⟩,
   ⟨(h.frozen (p := ⟨g, 0, none⟩) c.1).trans c.2.2.1, (h.frozen (p := ⟨g, 1, none⟩) c.1).trans c.2.2.2.1, (h.frozen (p := ⟨g, 2, none⟩) c.1).trans c.2.2.2.2⟩, Nat.lt_of_lt_of_le c.1 h.size⟩

/-- index of a text in one that ends with it, its answer under a name. -/
theorem idx_at (S B : ByteArray) (ls : S.size ≤ 180)
    (W : World) (b cap : Nat) (hW : Pow10 W) (hsh : W.ShapedOpen Tryd.prog)
    (a0 : W.cell? ⟨b, 0, none⟩ = some (.bool true)) (a1 : W.cell? ⟨b, 1, none⟩ = some (.int .i64 0)) (a2 : W.cell? ⟨b, 2, none⟩ = some (.string S))
    (b0 : W.cell? ⟨b, 3, none⟩ = some (.bool true)) (b1 : W.cell? ⟨b, 4, none⟩ = some (.int .i64 0)) (b2 : W.cell? ⟨b, 5, none⟩ = some (.string B)) :
    Calls Tryd.prog 25 #[.string ⟨#[105, 110, 100, 101, 120]⟩, .slice (some ⟨b, 0, none⟩) 2 cap] W fun e w' =>
      e = .returned (.tuple #[.agg #[.bool false, .int .i64 (Lib.index S.data.toList B.data.toList + 1), .string ⟨#[]⟩], .int .i64 0]) ∧ Below W.heap.size W w' :=
  call_index b 0 cap true 0 S true 0 B W hW hsh ⟨by omega, by omega⟩ ⟨by omega, by omega⟩ (show (strOf true 0 S).size ≤ 1000000 from Nat.le_trans ls (by omega)) a0 a1 a2 b0 b1 b2

/-- What the store of an answer leaves. -/
theorem box_set {W0 w4 : World} {s : ByteArray} (g : Nat) (h : Kp W0 w4) (hg : W0.heap.size ≤ g) (lt : g < w4.heap.size)
    (c0 : w4.cell? ⟨g, 0, none⟩ = some (.bool false)) (c1 : w4.cell? ⟨g, 1, none⟩ = some (.int .i64 0)) (c2 : w4.cell? ⟨g, 2, none⟩ = some (.string ⟨#[]⟩)) :
    Kp W0 (((w4.setCell ⟨g, 0, none⟩ (.bool true)).setCell ⟨g, 1, none⟩ (.int .i64 0)).setCell ⟨g, 2, none⟩ (.string s)) ∧
    Bx (((w4.setCell ⟨g, 0, none⟩ (.bool true)).setCell ⟨g, 1, none⟩ (.int .i64 0)).setCell ⟨g, 2, none⟩ (.string s)) g true 0 s :=
  ⟨((h.setCell _ _ hg).setCell _ _ hg).setCell _ _ hg, by simpa using lt, by simp [go_sem, c0], by simp [go_sem, c1], by simp [go_sem, c2]⟩
theorem box_new {W0 w4 : World} {s : ByteArray} {T : TypeId} (h : Kp W0 w4) :
    Kp W0 (w4.alloc (.cells #[.bool true, .int .i64 0, .string s] T)) ∧ Bx (w4.alloc (.cells #[.bool true, .int .i64 0, .string s] T)) w4.heap.size true 0 s :=
  ⟨h.alloc _, by simp, by simp [go_sem], by simp [go_sem], by simp [go_sem]⟩

/-- substr of a text that is short, its answer under a name. -/
theorem sub_at (S R : ByteArray) (x n : Int) (ls : S.size ≤ 180) (x0 : 0 ≤ x) (x1 : x ≤ 1000) (n0 : 0 ≤ n) (n1 : n ≤ 1000) (hR : S.extract (lowS x S.size) (highS x n S.size) = R)
    (W : World) (b cap : Nat) (hW : Pow10 W)
    (a0 : W.cell? ⟨b, 0, none⟩ = some (.bool true)) (a1 : W.cell? ⟨b, 1, none⟩ = some (.int .i64 0)) (a2 : W.cell? ⟨b, 2, none⟩ = some (.string S))
    (b0 : W.cell? ⟨b, 3, none⟩ = some (.bool false)) (b1 : W.cell? ⟨b, 4, none⟩ = some (.int .i64 x)) (b2 : W.cell? ⟨b, 5, none⟩ = some (.string ⟨#[]⟩))
    (c0 : W.cell? ⟨b, 6, none⟩ = some (.bool false)) (c1 : W.cell? ⟨b, 7, none⟩ = some (.int .i64 n)) (c2 : W.cell? ⟨b, 8, none⟩ = some (.string ⟨#[]⟩)) :
    Calls Tryd.prog 25 #[.string ⟨#[115, 117, 98, 115, 116, 114]⟩, .slice (some ⟨b, 0, none⟩) 3 cap] W fun e w' =>
      e = .returned (.tuple #[.agg #[.bool true, .int .i64 0, .string R], .int .i64 0]) ∧ Below W.heap.size W w' := by
  have hle : (⟨#[]⟩ : ByteArray).size ≤ maxLen := Nat.zero_le _
  have := call_substr b 0 cap true 0 S false x ⟨#[]⟩ false n ⟨#[]⟩ W hW ⟨by omega, by omega⟩ hle hle (show (strOf true 0 S).size ≤ 1000000 from Nat.le_trans ls (by omega)) a0 a1 a2 b0 b1 b2 c0 c1 c2 x n rfl rfl (by omega) (by omega) (by omega) (by omega)
  rw [show strOf true 0 S = S from rfl, hR] at this
  exact this

theorem sub_left (A B : ByteArray) (la : A.size ≤ 90) : (A ++ B).extract (lowS 1 (A ++ B).size) (highS 1 A.size (A ++ B).size) = A := by
  have h1 : lowS 1 (A ++ B).size = 0 := by
    unfold lowS
    omega
  have h2 : highS 1 A.size (A ++ B).size = A.size := by
    unfold highS
    rw [two_data]
    omega
  rw [h1, h2, join_left]
theorem sub_right (A B : ByteArray) (la : A.size ≤ 90) (lb : B.size ≤ 90) : (A ++ B).extract (lowS ((A.size : Int) + 1) (A ++ B).size) (highS ((A.size : Int) + 1) 1000 (A ++ B).size) = B := by
  have h1 : lowS ((A.size : Int) + 1) (A ++ B).size = A.size := by
    unfold lowS
    rw [two_data]
    omega
  have h2 : highS ((A.size : Int) + 1) 1000 (A ++ B).size = (A ++ B).size := by
    unfold highS
    rw [two_data]
    omega
  rw [h1, h2, join_right]

/-- A box behind which one block more is made ahead of a call. -/
theorem boxw_start2 {W w1 : World} {o o' : Obj} (h : Below ((W.alloc o).alloc o').heap.size ((W.alloc o).alloc o') w1) : Hid (Below (W.heap.size + 1) (W.alloc o) w1) :=
  ((Below.refl _ _).alloc (by simp) o').trans (h.mono (by simp))

set_option maxRecDepth 100000 in
set_option maxHeartbeats 1000000 in
theorem joined_any (s t : ByteArray) (w : World) (ht : Pow10 w) (hsh : w.ShapedOpen Tryd.prog) :
    Calls Tryd.prog 11 #[.string s, .string t] w fun e w' => e = .returned (.bool true) ∧ Below w.heap.size w w' := by
  have g1 : 0 ≤ min (s.size : Int) 90 := by omega
  have g2 : min (s.size : Int) 90 ≤ s.size := by omega
  have g3 : 0 ≤ min (t.size : Int) 90 := by omega
  have g4 : min (t.size : Int) 90 ≤ t.size := by omega
  have la : (s.extract 0 (min (s.size : Int) 90).toNat).size ≤ 90 := by
    rw [ByteArray.size_extract]
    omega
  have lb : (t.extract 0 (min (t.size : Int) 90).toNat).size ≤ 90 := by
    rw [ByteArray.size_extract]
    omega
  obtain ⟨A, hA⟩ : ∃ A, s.extract 0 (min (s.size : Int) 90).toNat = A := ⟨_, rfl⟩
  obtain ⟨B, hB⟩ : ∃ B, t.extract 0 (min (t.size : Int) 90).toNat = B := ⟨_, rfl⟩
  rw [hA] at la
  rw [hB] at lb
  have HA := Lib.hid hA
  have HB := Lib.hid hB
  have HT := Lib.hid ht
  have k0 : numOk 0 := ⟨by omega, by omega⟩
  have HO : Hid (∀ w1, Pow10 w1 → Calls Tryd.prog 23 #[.string ⟨#[46, 46]⟩, .agg #[.bool true, .int .i64 0, .string A], .agg #[.bool true, .int .i64 0, .string B]] w1 fun e w' =>
      e = .returned (.tuple #[.agg #[.bool true, .int .i64 0, .string (A ++ B)], .int .i64 0]) ∧ Below w1.heap.size w1 w') := by
    intro w1 h
    have := op_any ⟨#[46, 46]⟩ true 0 A true 0 B w1 h k0 k0 (by omega) (by omega)
    rw [show strOf true 0 A ++ strOf true 0 B = A ++ B from rfl, opR_dots _ _ _ _ (by rw [two_data]; omega)] at this
    exact this
  clear hA hB ht
  go_enter Tryd.func11, Tryd.ntmps11
  go_wp2_with (go_at_call 19; refine (text_any _ _).mono ?_; rintro e w2 ⟨rfl, rfl⟩)
  rw [HA.out, HB.out]
  refine (HO.out _ (HT.out.mono AB.start.below)).mono ?_
  rintro e w1 ⟨rfl, hb⟩
  have K : AB w w1 A B 24 := AB.start.next hb
  clear hb
  go_wp2_with fail
  refine (call_length (w1.heap.size + 1) 0 1 true 0 (A ++ B) _ (HT.out.mono ((K.alloc _).alloc _).below) k0 (by simp [go_sem]) (by simp [go_sem]) (by simp [go_sem])).mono ?_
  rintro e w2 ⟨rfl, hb⟩
  have K := ((K.alloc _).alloc _).next hb
  have C := boxw_start2 hb
  clear hb
  unfold resV
  rw [show strOf true 0 (A ++ B) = A ++ B from rfl]
  have CX : Bx w2 w1.heap.size true 0 (A ++ B) := ⟨by have := C.out.size; simp at this; omega, (boxw rfl C.out).1.1, (boxw rfl C.out).1.2.1, (boxw rfl C.out).1.2.2⟩
  clear C
  have ls : (A ++ B).size ≤ 180 := by
    rw [two_data]
    omega
  have HX := Lib.hid fun W b cap => sub_at (A ++ B) A 1 A.size ls (by omega) (by omega) (by omega) (by omega) (sub_left A B la) W b cap
  have HIX := index_occ (A ++ B).data.toList B.data.toList A.size (by rw [← Lib.size_eq, two_data]; omega) (join_occ A B)
  have CI := fun W b cap => idx_at (A ++ B) B ls W b cap
  generalize Lib.index (A ++ B).data.toList B.data.toList = ix at HIX CI
  obtain ⟨i0, i1⟩ := HIX
  have HI := Lib.hid CI
  clear CI
  have HY := Lib.hid fun W b cap => sub_at (A ++ B) B ((A.size : Int) + 1) 1000 ls (by omega) (by omega) (by omega) (by omega) (sub_right A B la lb) W b cap
  go_upto_region 5 with fail
  have K1 : J1 w (w2.alloc (.cells #[.bool false, .int .i64 ((A.size : Int) + B.size), .string ⟨#[]⟩] 24)) A B 24 w1.heap.size w2.heap.size :=
    ⟨K.alloc _, CX.next ((Below.refl _ _).alloc (Nat.le_refl _) _), ⟨by simp, by simp [go_sem], by simp [go_sem], by simp [go_sem]⟩⟩
  clear K CX
  have P1 : Pow10 (w2.alloc (.cells #[.bool false, .int .i64 ((A.size : Int) + B.size), .string ⟨#[]⟩] 24)) := HT.out.mono K1.ab.below
  generalize w2.alloc (.cells #[.bool false, .int .i64 ((A.size : Int) + B.size), .string ⟨#[]⟩] 24) = W0 at K1 P1 ⊢
  generalize w1.heap.size = c at K1 ⊢
  generalize w2.heap.size = n at K1 ⊢
  have HP := Lib.hid P1
  have HJ := Lib.hid K1
  clear P1 K1
  go_cut [11, 12] (fun s11 s12 wx => ∃ g : Nat, s11 = .pointer (some ⟨g, 0, none⟩) ∧ s12 = .int .i64 0 ∧ Kp W0 wx ∧ Bx wx g true 0 A)
  case first =>
    go_region_held3 (fun w' => (w'.cell? ⟨w.heap.size + 1, 2, none⟩ = some (.string A) ∧ w'.cell? ⟨c, 0, none⟩ = some (.bool true) ∧ w'.cell? ⟨c, 1, none⟩ = some (.int .i64 0) ∧ w'.cell? ⟨c, 2, none⟩ = some (.string (A ++ B))) ∧ Kp W0 w')
      (first | exact Kp.cells Kp.startd HJ.out | (go_split_ands; exact Kp.cells (Kp.next (by assumption) hbm) HJ.out) | (go_split_ands; exact Kp.cells (Kp.alloc (by assumption) _) HJ.out) | (go_split_ands; exact Kp.cells (Kp.drew (by assumption)) HJ.out) | (go_split_ands; exact Kp.cells (by assumption) HJ.out) | (go_split_ands; exact Kp.cells (Kp.alloc hk4.out _) HJ.out) | (go_split_ands; exact Kp.cells (Kp.setCell (Kp.setCell (Kp.setCell (by assumption) _ _ (by simp <;> omega)) _ _ (by simp <;> omega)) _ _ (by simp <;> omega)) HJ.out) | (go_split_ands; trace_state; fail))
      (first
        | (go_at_call 20; refine (number_any _ _).mono ?_; rintro e w3 ⟨rfl, rfl⟩)
        | (go_at_call 25; refine (HX.out _ _ _ (HP.out.mono (Kp.h (by go_split_ands; assumption))) (by simp [go_sem]) (by simp [go_sem]) (by simp [go_sem]) (by simp [go_sem]) (by simp [go_sem]) (by simp [go_sem]) (by simp [go_sem]) (by simp [go_sem]) (by simp [go_sem])).mono ?_; rintro e w4 ⟨rfl, hbm⟩; have hk4 := Lib.hid (Kp.next (W0 := W0) (by go_split_ands; assumption) hbm); first | (refine box_over W0.heap.size hbm ?_ ?_; (· simp [go_sem]); rintro ⟨⟨b0, b1, b2⟩, ⟨f0, f1, f2⟩, bl⟩) | (refine box_over (W0.heap.size + 1) hbm ?_ ?_; (· simp [go_sem]); rintro ⟨⟨b0, b1, b2⟩, ⟨f0, f1, f2⟩, bl⟩) | (refine box_over (W0.heap.size + 1 + 1) hbm ?_ ?_; (· simp [go_sem]); rintro ⟨⟨b0, b1, b2⟩, ⟨f0, f1, f2⟩, bl⟩) | (refine box_over (W0.heap.size + 1 + 1 + 1) hbm ?_ ?_; (· simp [go_sem]); rintro ⟨⟨b0, b1, b2⟩, ⟨f0, f1, f2⟩, bl⟩) | skip))
    all_goals (go_wp2_with fail; go_meet; first | exact ⟨_, rfl, rfl, box_new hk4.out⟩ | exact ⟨_, rfl, rfl, box_set _ hk4.out (by omega) (by assumption) (by assumption) (by assumption) (by assumption)⟩)
  case rest =>
    obtain ⟨g, rfl, rfl, hk, bx⟩ := hcut
    obtain ⟨wx, rfl⟩ : ∃ wx : World, wx = wc := ⟨_, rfl⟩
    have HJ2 := Lib.hid (HJ.out.next hk.h)
    have HP2 := Lib.hid (HP.out.mono hk.h)
    have HSH := Lib.hid (shaped_next hsh HJ2.out.ab.below)
    have HBX := Lib.hid bx
    clear HJ HP hk bx hsh
    have hw : IntKind.i64.wrap ((A.size : Int) + 1) = (A.size : Int) + 1 := IntWalk.i64_in _ (by omega)
    go_upto_region 6 with fail
    go_cut [13, 14] (fun s13 s14 wy => ∃ g2 : Nat, s13 = .pointer (some ⟨g2, 0, none⟩) ∧ s14 = .int .i64 0 ∧ Kp wx wy ∧ Bx wy g2 true 0 B)
    case first =>
      go_region_held3 (fun w' => (w'.cell? ⟨w.heap.size + 1, 2, none⟩ = some (.string A) ∧ w'.cell? ⟨c, 0, none⟩ = some (.bool true) ∧ w'.cell? ⟨c, 1, none⟩ = some (.int .i64 0) ∧ w'.cell? ⟨c, 2, none⟩ = some (.string (A ++ B))) ∧ Kp wx w')
        (first | exact Kp.cells Kp.startd HJ2.out | (go_split_ands; exact Kp.cells (Kp.next (by assumption) hbm) HJ2.out) | (go_split_ands; exact Kp.cells (Kp.alloc (by assumption) _) HJ2.out) | (go_split_ands; exact Kp.cells (Kp.drew (by assumption)) HJ2.out) | (go_split_ands; exact Kp.cells (by assumption) HJ2.out) | (go_split_ands; exact Kp.cells (Kp.alloc hk6.out _) HJ2.out) | (go_split_ands; exact Kp.cells (Kp.setCell (Kp.setCell (Kp.setCell (by assumption) _ _ (by simp <;> omega)) _ _ (by simp <;> omega)) _ _ (by simp <;> omega)) HJ2.out) | (go_split_ands; trace_state; fail))
        (first
          | (go_at_call 20; refine (number_any _ _).mono ?_; rintro e w5 ⟨rfl, rfl⟩)
          | (go_at_call 25; refine (HY.out _ _ _ (HP2.out.mono (Kp.h (by go_split_ands; assumption))) (by simp [go_sem]) (by simp [go_sem]) (by simp [go_sem]) (by simp [go_sem]) (by simp [go_sem]) (by simp [go_sem]) (by simp [go_sem]) (by simp [go_sem]) (by simp [go_sem])).mono ?_; rintro e w6 ⟨rfl, hbm⟩; have hk6 := Lib.hid (Kp.next (W0 := wx) (by go_split_ands; assumption) hbm); first | (refine box_over wx.heap.size hbm ?_ ?_; (· simp [go_sem]); rintro ⟨⟨b0, b1, b2⟩, ⟨f0, f1, f2⟩, bl⟩) | (refine box_over (wx.heap.size + 1) hbm ?_ ?_; (· simp [go_sem]); rintro ⟨⟨b0, b1, b2⟩, ⟨f0, f1, f2⟩, bl⟩) | (refine box_over (wx.heap.size + 1 + 1) hbm ?_ ?_; (· simp [go_sem]); rintro ⟨⟨b0, b1, b2⟩, ⟨f0, f1, f2⟩, bl⟩) | (refine box_over (wx.heap.size + 1 + 1 + 1) hbm ?_ ?_; (· simp [go_sem]); rintro ⟨⟨b0, b1, b2⟩, ⟨f0, f1, f2⟩, bl⟩) | skip))
      all_goals (go_wp2_with fail; go_meet; first | exact ⟨_, rfl, rfl, box_new hk6.out⟩ | exact ⟨_, rfl, rfl, box_set _ hk6.out (by omega) (by assumption) (by assumption) (by assumption) (by assumption)⟩)
    case rest =>
      obtain ⟨h, rfl, rfl, hk, by0⟩ := hcut
      have HJ3 := HJ2.out.next hk.h
      have HP3 := Lib.hid (HP2.out.mono hk.h)
      have HSH3 := Lib.hid (shaped_next HSH.out hk.h)
      have HBX3 := HBX.out.next hk.h
      obtain ⟨wy, rfl⟩ : ∃ wy : World, wy = wc := ⟨_, rfl⟩
      clear HJ2 HP2 HSH HBX hk
      have hJ := Lib.hid HJ3
      have hX := Lib.hid HBX3
      have hY := Lib.hid by0
      obtain ⟨a0, a1, a2, b0, b1, b2⟩ := HJ3.ab.cells
      obtain ⟨_, c0, c1, c2⟩ := HJ3.cells
      clear HJ3 HBX3 by0
      go_wp2_with fail
      refine (HI.out _ _ _ (HP3.out.mono ((Below.refl _ _).alloc (Nat.le_refl _) _)) (shaped_next HSH3.out ((Below.refl _ _).alloc (Nat.le_refl _) _)) (by simp [go_sem]) (by simp [go_sem]) (by simp [go_sem]) (by simp [go_sem]) (by simp [go_sem]) (by simp [go_sem])).mono ?_
      rintro e w7 ⟨rfl, hbm⟩
      have kp : Kp wy w7 := Kp.next (Kp.alloc Kp.start _) hbm
      clear hbm a0 a1 a2 b0 b1 b2 c0 c1 c2
      have J7 := hJ.out.next kp.h
      have X7 := hX.out.next kp.h
      have Y7 := hY.out.next kp.h
      have fin : Below w.heap.size w w7 := J7.ab.below
      have FIN := Lib.hid fin
      clear HP3 HSH3 hJ hX hY kp fin HI
      have al := fun o => (J7.ab.alloc o).cells
      have nl := fun o => J7.nx.next ((Below.refl _ _).alloc (Nat.le_refl _) o)
      have xl := fun o => X7.next ((Below.refl _ _).alloc (Nat.le_refl _) o)
      have yl := fun o => Y7.next ((Below.refl _ _).alloc (Nat.le_refl _) o)
      have a0 := fun o => (al o).1
      have a1 := fun o => (al o).2.1
      have a2 := fun o => (al o).2.2.1
      have b0 := fun o => (al o).2.2.2.1
      have b1 := fun o => (al o).2.2.2.2.1
      have b2 := fun o => (al o).2.2.2.2.2
      have n0 := fun o => (nl o).c1
      have x0 := fun o => (xl o).c0
      have x1 := fun o => (xl o).c1
      have x2 := fun o => (xl o).c2
      have y0 := fun o => (yl o).c0
      have y1 := fun o => (yl o).c1
      have y2 := fun o => (yl o).c2
      clear al nl xl yl J7 X7 Y7
      go_wp2_with fail
      go_ret
      exact ⟨rfl, FIN.out.alloc FIN.out.size _⟩
end Go.Proofs.YtfnmepnbbeijhaaDoor
