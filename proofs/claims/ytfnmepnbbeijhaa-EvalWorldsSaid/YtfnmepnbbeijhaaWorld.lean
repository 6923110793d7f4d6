/- THE WALKS of eval.CheckWorld and of the reference's WorldFault; conditions: how the slices that came in lie in memory. -/
import Derived.Test.YtfnmepnbbeijhaaVals
import Derived.Test.YtfnmepnbbeijhaaShelf
import Derived.Lib.SmallJoins
import Derived.Deep.QuietTactic
import Derived.BigQuiet
namespace Go.Proofs.Ytfnmepnbbeijhaa
open Go Go.RowKit

/-- A line that may not be: too long, or with a line feed in it. -/
def longL (s : ByteArray) : Bool := decide (200 < s.size) || decide (0 ≤ Lib.indexByte s.data.toList 10)

theorem indexByte_nonneg : ∀ (l : List UInt8) (c : UInt8), 0 ≤ Lib.indexByte l c ↔ c ∈ l := by
  intro l c
  constructor
  · intro h
    obtain ⟨o, ho⟩ := Int.eq_ofNat_of_zero_le h
    exact List.mem_of_getElem? (Lib.indexByte_some ho).1
  · intro h
    rcases Int.lt_or_le (Lib.indexByte l c) 0 with h1 | h1
    · obtain ⟨j, hj, e⟩ := List.getElem_of_mem h
      have h2 : Lib.indexByte l c = -1 := by
        have := Lib.indexByte_ge l c
        omega
      exact absurd (by rw [List.getElem?_eq_getElem hj, e]) (Lib.indexByte_none h2 j)
    · exact h1

theorem long_pred (w : World) : PredAt Try.prog 18 #[] Value.string longL w := fun W s _ => by
  show Calls Try.prog 18 #[.string s] W _
  by_cases h1 : 200 < s.size
  · have HE : Hid (longL s = true) := by show longL s = true; simp [longL, h1]
    go_enter Try.func18, Try.ntmps18
    go_wp2_with fail
    go_ret
    exact ⟨ret_bool HE.out.symm, 0, rfl⟩
  · have HE : Hid (longL s = (decide ((200 : Int) < (s.size : Int)) || decide (0 ≤ Lib.indexByte s.data.toList 10))) := by
      show longL s = _
      have e : decide ((200 : Int) < (s.size : Int)) = decide (200 < s.size) := by rw [decide_eq_decide]; omega
      rw [e]
      rfl
    generalize hr : Lib.indexByte s.data.toList 10 = r at HE
    have C : Calls Try.prog 19 #[.string s, .int .u8 10] W fun e w' => e = .returned (.int .i64 r) ∧ w' = W := by
      rw [← hr]
      exact Try.strings_IndexByte s 10 W
    have HC := Lib.hid C
    clear hr C
    go_enter Try.func18, Try.ntmps18
    go_wp2_with fail
    refine HC.out.mono ?_
    rintro e w' ⟨rfl, rfl⟩
    go_wp2_with fail
    go_ret
    exact ⟨ret_bool HE.out.symm, 0, rfl⟩

/-- A slice of texts, as it lies in a world: nil, or its cells one behind the other. -/
def StrsAt (W : World) (v : Value) (ss : List ByteArray) : Prop :=
  ∃ (a : Option Addr) (c : Nat), v = .slice a ss.length c ∧ (0 < ss.length → ∃ b off : Nat, a = some ⟨b, off, none⟩ ∧ b < W.heap.size ∧ ∀ i, i < ss.length → W.cell? ⟨b, off + i, none⟩ = some (.string (ss.getD i ByteArray.empty)))

theorem StrsAt.mono {W W' : World} {v : Value} {ss : List ByteArray} (h : StrsAt W v ss) (hb : Below W.heap.size W W') : StrsAt W' v ss := by
  obtain ⟨a, c, rfl, h⟩ := h
  refine ⟨a, c, rfl, fun h0 => ?_⟩
  obtain ⟨b, off, rfl, hlt, hc⟩ := h h0
  exact ⟨b, off, rfl, Nat.lt_of_lt_of_le hlt hb.size, fun i hi => (hb.cell (p := ⟨b, off + i, none⟩) hlt).trans (hc i hi)⟩

theorem containsLong_any (v : Value) (ss : List ByteArray) (W : World) (h : StrsAt W v ss) (hbig : ss.length ≤ 9223372036854775807) :
    Calls Try.prog 22 #[v, .func (.func 18) #[] #[]] W fun e w' => e = .returned (.bool (ss.any longL)) ∧ Below W.heap.size W w' := by
  have eg : ∀ args w, (callFunc 18 args).run Try.prog w = .ok (.enter 18 args) w := enters_of Try.func18 (by kernel_rfl) rfl
  obtain ⟨a, c, rfl, h⟩ := h
  by_cases h0 : 0 < ss.length
  · obtain ⟨b, off, rfl, hlt, hc⟩ := h h0
    have := Try.slices_ContainsFunc Value.string longL 18 #[] eg b off ss.length c ss W (long_pred W) (Nat.le_refl _) hbig (fun j hj => by
      rw [hc j hj, List.getD_eq_getElem?_getD]
      simp [hj])
    rw [List.take_length] at this
    refine this.mono ?_
    rintro e w' ⟨rfl, q, rfl⟩
    exact ⟨rfl, Joins.below_draws _ _ _⟩
  · have e : ss = [] := List.length_eq_zero_iff.1 (by omega)
    subst e
    refine (Try.slices_ContainsFunc_empty (α := ByteArray) a c _ W).mono ?_
    rintro e w' ⟨rfl, rfl⟩
    exact ⟨rfl, Below.refl _ _⟩

/-- A file: its name, its lines as they lie, its lines. -/
abbrev FileL := ByteArray × Value × List ByteArray
def encF (x : FileL) : List Value := [.string x.1, x.2.1]

/-- Files, as they lie in a world from a place on. -/
def FilesAt (W : World) (b off : Nat) (fs : List FileL) : Prop :=
  b < W.heap.size ∧ ∀ j, j < fs.length → W.cell? ⟨b, off + j * 2, none⟩ = some (.string fs[j]!.1) ∧ W.cell? ⟨b, off + j * 2 + 1, none⟩ = some fs[j]!.2.1 ∧ StrsAt W fs[j]!.2.1 fs[j]!.2.2

theorem FilesAt.mono {W W' : World} {b off : Nat} {fs : List FileL} (h : FilesAt W b off fs) (hb : Below W.heap.size W W') : FilesAt W' b off fs :=
  ⟨Nat.lt_of_lt_of_le h.1 hb.size, fun j hj => ⟨(hb.cell (p := ⟨b, _, none⟩) h.1).trans (h.2 j hj).1, (hb.cell (p := ⟨b, _, none⟩) h.1).trans (h.2 j hj).2.1, (h.2 j hj).2.2.mono hb⟩⟩

/-- The closure that asks for a name: the file's box lies at ⟨B, 0⟩. -/
theorem same_pred (nm : ByteArray) (B : Nat) (w : World) (hB : B < w.heap.size) (hcell : w.cell? ⟨B, 0, none⟩ = some (.string nm)) :
    PredBelow Try.prog 21 #[.pointer (some ⟨B, 0, none⟩)] (fun x : FileL => .agg (encF x).toArray) (fun x => x.1.toList == nm.toList) w := fun W x hb => by
  have hc : W.cell? ⟨B, 0, none⟩ = some (.string nm) := (hb.cell (p := ⟨B, 0, none⟩) hB).trans hcell
  have hBW : B < W.heap.size := Nat.lt_of_lt_of_le hB hb.size
  have hne : B ≠ W.heap.size := by omega
  show Calls Try.prog 21 #[.agg #[.string x.1, x.2.1], .pointer (some ⟨B, 0, none⟩)] W _
  go_enter Try.func21, Try.ntmps21
  go_wp2_with fail
  go_ret
  exact ⟨rfl, hb.alloc hb.size _⟩

theorem containsName_any (nm : ByteArray) (B b off n c : Nat) (fs : List FileL) (W : World) (hf : FilesAt W b off fs) (hn : n ≤ fs.length) (hbig : n ≤ 9223372036854775807) (hB : B < W.heap.size) (hcell : W.cell? ⟨B, 0, none⟩ = some (.string nm)) :
    Calls Try.prog 20 #[.slice (some ⟨b, off, none⟩) n c, .func (.func 21) #[] #[.pointer (some ⟨B, 0, none⟩)]] W fun e w' =>
      e = .returned (.bool ((fs.take n).any fun x => x.1.toList == nm.toList)) ∧ Below W.heap.size W w' := by
  have eg : ∀ args w, (callFunc 21 args).run Try.prog w = .ok (.enter 21 args) w := enters_of Try.func21 (by kernel_rfl) rfl
  exact AnyQ.slices_ContainsFunc Try.laysFiles8 2 Try.isAgg41 Try.sizeOf41 encF (fun _ => rfl) (fun x => x.1.toList == nm.toList) 21 #[.pointer (some ⟨B, 0, none⟩)] eg b off n c fs W
    (same_pred nm B W hB hcell) hn hbig hf.1 (fun j hj i v hi => by
      have h1 := hf.2 j hj
      generalize fs[j]! = y at hi h1
      match i, hi with
      | 0, hi => simp [encF] at hi; rw [← hi]; exact h1.1
      | 1, hi => simp [encF] at hi; rw [← hi]; exact h1.2.1
      | i + 2, hi => simp [encF] at hi)

/-- What P3.1 says of files and lines: the error's number; 'prev': the names ahead. -/
def worldF (lines : List ByteArray) : List ByteArray → List FileL → Int
  | _, [] => if lines.any longL then 4 else 0
  | prev, x :: r => if 100 < x.2.2.length ∨ 200 < x.1.size then 1 else if (prev.any fun y => y.toList == x.1.toList) then 9 else if x.2.2.any longL then 4 else worldF lines (prev ++ [x.1]) r

def worldErr (fs : List FileL) (lines : List ByteArray) : Int := if 8 < fs.length ∨ 200 < lines.length then 1 else worldF lines [] fs

/-- What is still to be asked, behind k files. -/
def restF (fs : List FileL) (lines : List ByteArray) (k : Nat) : Int := worldF lines ((fs.take k).map (·.1)) (fs.drop k)

theorem restF_zero (fs : List FileL) (lines : List ByteArray) : restF fs lines 0 = worldF lines [] fs := rfl
theorem restF_end {fs : List FileL} {lines : List ByteArray} {k : Nat} (h : ¬ k < fs.length) : restF fs lines k = if lines.any longL then 4 else 0 := by
  unfold restF
  rw [List.drop_eq_nil_iff.2 (by omega)]
  rfl
theorem restF_step {fs : List FileL} {lines : List ByteArray} {k : Nat} (h : k < fs.length) :
    restF fs lines k = if 100 < fs[k]!.2.2.length ∨ 200 < fs[k]!.1.size then 1 else if ((fs.take k).any fun x => x.1.toList == fs[k]!.1.toList) then 9 else if fs[k]!.2.2.any longL then 4 else restF fs lines (k + 1) := by
  have e : fs[k]! = fs[k] := getElem!_pos fs k h
  unfold restF
  rw [List.drop_eq_getElem_cons h, e]
  show (if 100 < fs[k].2.2.length ∨ 200 < fs[k].1.size then (1 : Int) else if (((fs.take k).map (·.1)).any fun y => y.toList == fs[k].1.toList) then 9 else if fs[k].2.2.any longL then 4 else worldF lines ((fs.take k).map (·.1) ++ [fs[k].1]) (fs.drop (k + 1))) = _
  rw [List.any_map, show (fs.take k).map (·.1) ++ [fs[k].1] = (fs.take (k + 1)).map (·.1) by rw [List.take_succ_eq_append_getElem h, List.map_append]; rfl]
  rfl

theorem checkWorld_any (a : Option Addr) (c : Nat) (fs : List FileL) (lv : Value) (lines : List ByteArray) (W : World)
    (hf : 0 < fs.length → ∃ b off : Nat, a = some ⟨b, off, none⟩ ∧ FilesAt W b off fs) (hl : StrsAt W lv lines) (hc : fs.length ≤ c) (_hcm : c ≤ maxLen) (hlm : lines.length ≤ maxLen) (hm : ∀ j, j < fs.length → fs[j]!.2.2.length ≤ maxLen) :
    Calls Try.prog 15 #[.slice a fs.length c, lv] W fun e w' => e = .returned (.int .i64 (worldErr fs lines)) ∧ Below W.heap.size W w' := by
  unfold maxLen at hlm hm
  obtain ⟨la, lc, rfl, hl2⟩ := hl
  have HL : Hid (StrsAt W (.slice la lines.length lc) lines) := ⟨la, lc, rfl, hl2⟩
  clear hl2
  have HF := Lib.hid hf
  have HM := Lib.hid hm
  clear hf hm
  by_cases h8 : 8 < fs.length
  · have HE : Hid (worldErr fs lines = 1) := if_pos (Or.inl h8)
    go_enter Try.func15, Try.ntmps15
    go_wp2_with fail
    go_ret
    exact ⟨ret_int HE.out.symm, Below.refl _ _⟩
  · by_cases h2 : 200 < lines.length
    · have HE : Hid (worldErr fs lines = 1) := if_pos (Or.inr h2)
      go_enter Try.func15, Try.ntmps15
      go_wp2_with fail
      go_ret
      exact ⟨ret_int HE.out.symm, Below.refl _ _⟩
    · have HE : Hid (worldErr fs lines = restF fs lines 0) := if_neg (by omega)
      go_enter Try.func15, Try.ntmps15
      go_wp2_with fail
      go_loopw [18] (fun i wr => ∃ k : Nat, k ≤ fs.length ∧ i = .int .i64 k ∧ Hid (Below W.heap.size W wr) ∧ Hid (worldErr fs lines = restF fs lines k)) (fun i _ => fs.length - (intOf i).toNat)
      case atStart => exact ⟨0, Nat.zero_le _, rfl, Below.refl _ _, HE⟩
      case round =>
        clear HE
        obtain ⟨k, hk, rfl, HB, HE⟩ := hrel
        by_cases hlt : k < fs.length
        · obtain ⟨b, off, rfl, FA⟩ := HF.out (by omega)
          have hmk := HM.out k hlt
          have hst := restF_step (lines := lines) hlt
          have FR := FA.mono HB.out
          have HFR := Lib.hid FR
          have hbr := FR.1
          obtain ⟨c0, c1, hS⟩ := FR.2 k hlt
          clear FA FR HF
          generalize fs[k]! = x at hmk hst c0 c1 hS
          obtain ⟨nm, v, ss⟩ := x
          simp only at hmk hst c0 c1 hS
          obtain ⟨sa, sc, rfl, hS2⟩ := hS
          have HS : Hid (StrsAt wr (.slice sa ss.length sc) ss) := ⟨sa, sc, rfl, hS2⟩
          clear hS2
          have HST := Lib.hid hst
          clear hst
          by_cases h100 : 100 < ss.length
          · go_wp2_with fail
            go_ret
            exact ⟨ret_int (HE.out.trans (HST.out.trans (if_pos (Or.inl h100)))).symm, HB.out.alloc HB.out.size _⟩
          · by_cases h200 : 200 < nm.size
            · go_wp2_with fail
              go_ret
              exact ⟨ret_int (HE.out.trans (HST.out.trans (if_pos (Or.inr h200)))).symm, HB.out.alloc HB.out.size _⟩
            · have HST2 := Lib.hid (HST.out.trans (if_neg (by omega)))
              clear HST
              have C := containsName_any nm wr.heap.size b off k c fs (wr.alloc (.cells #[.string nm, .slice sa ss.length sc] 41)) (HFR.out.mono (Joins.below_alloc1 _ _)) (by omega) (by omega) (by simp) (by simp [go_sem])
              have C2 := fun w1 h => containsLong_any (.slice sa ss.length sc) ss w1 h hmk
              generalize ((fs.take k).any fun x => x.1.toList == nm.toList) = q1 at C HST2
              generalize ss.any longL = q2 at C2 HST2
              have HC := Lib.hid C
              have HC2 := Lib.hid C2
              clear C C2
              go_wp2_with fail
              refine HC.out.mono ?_
              rintro e w1 ⟨rfl, hb1⟩
              have hbw : Below wr.heap.size wr w1 := (Joins.below_alloc1 _ _).trans (hb1.mono (by simp))
              have hcw : w1.cell? ⟨wr.heap.size, 1, none⟩ = some (.slice sa ss.length sc) := (hb1.cell (p := ⟨wr.heap.size, 1, none⟩) (by simp)).trans (by simp [go_sem])
              have HBW := Lib.hid hbw
              clear hb1 hbw
              cases q1 with
              | true =>
                go_wp2_with fail
                go_ret
                exact ⟨ret_int (HE.out.trans (HST2.out.trans (if_pos trivial))).symm, HB.out.trans (HBW.out.mono HB.out.size)⟩
              | false =>
                go_wp2_with fail
                refine (HC2.out w1 (HS.out.mono HBW.out)).mono ?_
                rintro e w2 ⟨rfl, hb2⟩
                have HB2 := Lib.hid (HB.out.trans ((HBW.out.trans (hb2.mono HBW.out.size)).mono HB.out.size))
                clear hb2
                cases q2 with
                | true =>
                  go_wp2_with fail
                  go_ret
                  exact ⟨ret_int (HE.out.trans (HST2.out.trans rfl)).symm, HB2.out⟩
                | false =>
                  go_wp2_with fail
                  go_roundw
                  case rel => exact ⟨k + 1, by omega, by go_num, HB2, HE.out.trans HST2.out⟩
                  case measure => simp [intOf]; omega
        · obtain rfl : k = fs.length := by omega
          have HST := Lib.hid (restF_end (lines := lines) hlt)
          have C2 := containsLong_any (.slice la lines.length lc) lines wr (HL.out.mono HB.out) hlm
          generalize lines.any longL = q2 at C2 HST
          have HC2 := Lib.hid C2
          clear C2
          go_wp2_with fail
          refine HC2.out.mono ?_
          rintro e w2 ⟨rfl, hb2⟩
          have HB2 := Lib.hid (HB.out.trans (hb2.mono HB.out.size))
          clear hb2
          cases q2 with
          | true =>
            go_wp2_with fail
            go_ret
            exact ⟨ret_int (HE.out.trans HST.out).symm, HB2.out⟩
          | false =>
            go_wp2_with fail
            go_ret
            exact ⟨ret_int (HE.out.trans HST.out).symm, HB2.out⟩

/-- A line that may be, as the reference asks it. -/
theorem lineMay_any (s : ByteArray) (hs : s.size ≤ maxLen) (w : World) : Calls Try.prog 23 #[.string s] w fun e w' => e = .returned (.bool (!longL s)) ∧ w' = w := by
  unfold maxLen at hs
  go_enter Try.func23, Try.ntmps23
  go_wp2_with fail
  go_loop [3] (fun i => ∃ k : Nat, k ≤ s.size ∧ i = .int .i64 k ∧ Hid (∀ j : Nat, ∀ h : j < s.data.toList.length, j < k → s.data.toList[j] ≠ 10)) (fun i => s.size - (intOf i).toNat)
  case atStart => exact ⟨0, Nat.zero_le _, rfl, (show Hid _ from fun j _ hj => absurd hj (Nat.not_lt_zero _))⟩
  case round =>
    obtain ⟨k, hk, rfl, HN⟩ := hrel
    by_cases hlt : k < s.size
    · have hl : k < s.data.toList.length := by rw [← Lib.size_eq]; exact hlt
      by_cases hc : s.data.toList[k] = 10
      · have hb : ((s[k].toNat : Int) == 10) = true := by
          have e : s[k] = 10 := hc
          rw [e]
          rfl
        have HE : Hid (longL s = true) := by
          show longL s = true
          have : 0 ≤ Lib.indexByte s.data.toList 10 := (indexByte_nonneg _ _).2 (hc ▸ List.getElem_mem hl)
          simp [longL, this]
        clear hc
        go_wp2_with fail
        go_ret
        exact ⟨ret_bool (by rw [HE.out]; rfl), rfl⟩
      · have hb : ((s[k].toNat : Int) == 10) = false := by
          rw [beq_eq_false_iff_ne]
          intro e
          apply hc
          apply UInt8.toNat_inj.1
          show s[k].toNat = 10
          omega
        have HC := Lib.hid hc
        clear hc
        go_wp2_with fail
        go_round
        case rel =>
          refine ⟨k + 1, by omega, by go_num, (show Hid _ from fun j hj hjk => ?_)⟩
          by_cases e : j = k
          · subst e
            exact HC.out
          · exact HN.out j hj (by omega)
        case measure => simp [intOf]; omega
    · go_wp2_with fail
      go_ret
      refine ⟨ret_bool ?_, rfl⟩
      have hi : ¬ 0 ≤ Lib.indexByte s.data.toList 10 := by
        rw [indexByte_nonneg]
        intro hm
        obtain ⟨j, hj, e⟩ := List.getElem_of_mem hm
        exact HN.out j hj (by rw [← Lib.size_eq] at hj; omega) e
      by_cases h2 : s.size ≤ 200
      · have : ¬ 200 < s.size := by omega
        simp [longL, hi, this]
        omega
      · have : 200 < s.size := by omega
        simp [longL, this]
        omega

theorem any_false {α : Type} {p : α → Bool} {l : List α} (h : ∀ i (hi : i < l.length), p l[i] = false) : l.any p = false := by
  rw [List.any_eq_false]
  intro x hx
  obtain ⟨j, hj, rfl⟩ := List.getElem_of_mem hx
  rw [h j hj]
  simp

theorem any_true {α : Type} {p : α → Bool} {l : List α} {i : Nat} (hi : i < l.length) (h : p l[i] = true) : l.any p = true := List.any_eq_true.2 ⟨_, List.getElem_mem hi, h⟩

theorem any_take_true {α : Type} [Inhabited α] {p : α → Bool} {l : List α} {m k : Nat} (hm : m < k) (hk : k ≤ l.length) (h : p l[m]! = true) : (l.take k).any p = true := by
  have hl : m < l.length := by omega
  refine any_true (i := m) (by rw [List.length_take]; omega) ?_
  rw [List.getElem_take, ← getElem!_pos l m hl]
  exact h

theorem any_take_false {α : Type} [Inhabited α] {p : α → Bool} {l : List α} {k : Nat} (h : ∀ i, i < k → p l[i]! = false) : (l.take k).any p = false := by
  refine any_false fun i hi => ?_
  rw [List.length_take] at hi
  have hl : i < l.length := by omega
  rw [List.getElem_take, ← getElem!_pos l i hl]
  exact h i (by omega)

set_option maxHeartbeats 1000000 in
theorem worldFault_any (a : Option Addr) (c : Nat) (fs : List FileL) (lv : Value) (lines : List ByteArray) (W : World)
    (hf : 0 < fs.length → ∃ b off : Nat, a = some ⟨b, off, none⟩ ∧ FilesAt W b off fs) (hl : StrsAt W lv lines) (_hc : fs.length ≤ c) (_hcm : c ≤ maxLen) (hlm : lines.length ≤ maxLen) (hm : ∀ j, j < fs.length → fs[j]!.2.2.length ≤ maxLen)
    (hsz : ∀ j, j < fs.length → ∀ i, i < fs[j]!.2.2.length → (fs[j]!.2.2.getD i ByteArray.empty).size ≤ maxLen) (hlz : ∀ i, i < lines.length → (lines.getD i ByteArray.empty).size ≤ maxLen) :
    Calls Try.prog 16 #[.slice a fs.length c, lv] W fun e w' => e = .returned (.int .i64 (worldErr fs lines)) ∧ Below W.heap.size W w' := by
  have HSZ := Lib.hid hsz
  have HLZ := Lib.hid hlz
  clear hsz hlz
  unfold maxLen at hlm hm
  obtain ⟨la, lc, rfl, hl2⟩ := hl
  have HL := Lib.hid hl2
  clear hl2
  have HF := Lib.hid hf
  have HM := Lib.hid hm
  clear hf hm
  by_cases h8 : 8 < fs.length
  · have HE : Hid (worldErr fs lines = 1) := if_pos (Or.inl h8)
    go_enter Try.func16, Try.ntmps16
    go_wp2_with fail
    go_ret
    exact ⟨ret_int HE.out.symm, Below.refl _ _⟩
  · by_cases h2 : 200 < lines.length
    · have HE : Hid (worldErr fs lines = 1) := if_pos (Or.inr h2)
      go_enter Try.func16, Try.ntmps16
      go_wp2_with fail
      go_ret
      exact ⟨ret_int HE.out.symm, Below.refl _ _⟩
    · have HE : Hid (worldErr fs lines = restF fs lines 0) := if_neg (by omega)
      go_enter Try.func16, Try.ntmps16
      go_wp2_with fail
      go_loopw [5] (fun i wr => ∃ k q : Nat, k ≤ fs.length ∧ i = .int .i64 k ∧ wr = W.drewN q ∧ Hid (worldErr fs lines = restF fs lines k)) (fun i _ => fs.length - (intOf i).toNat)
      case atStart => exact ⟨0, 0, Nat.zero_le _, rfl, rfl, HE⟩
      case round =>
        clear HE
        obtain ⟨k, q, hk, rfl, rfl, HE⟩ := hrel
        by_cases hlt : k < fs.length
        · obtain ⟨b, off, rfl, FA⟩ := HF.out (by omega)
          have hmk := HM.out k hlt
          have hszk := HSZ.out k hlt
          have hst := restF_step (lines := lines) hlt
          obtain ⟨c0, c1, hS⟩ := FA.2 k hlt
          have HFA := Lib.hid FA
          clear FA
          generalize hx : fs[k]! = x at hmk hszk hst c0 c1 hS
          have HX := Lib.hid hx
          clear hx
          obtain ⟨nm, v, ss⟩ := x
          simp only at hmk hszk hst c0 c1 hS
          obtain ⟨sa, sc, rfl, hS2⟩ := hS
          have HS := Lib.hid hS2
          have HSZk := Lib.hid hszk
          have HST := Lib.hid hst
          clear hst hS2 hszk
          by_cases h100 : 100 < ss.length
          · go_wp2_with fail
            go_ret
            exact ⟨ret_int (HE.out.trans (HST.out.trans (if_pos (Or.inl h100)))).symm, Joins.below_draws _ _ _⟩
          · by_cases h200 : 200 < nm.size
            · go_wp2_with fail
              go_ret
              exact ⟨ret_int (HE.out.trans (HST.out.trans (if_pos (Or.inr h200)))).symm, Joins.below_draws _ _ _⟩
            · have HST2 := Lib.hid (HST.out.trans (if_neg (by omega)))
              clear HST
              go_wp2_with fail
              go_loopw [6] (fun j wx => ∃ m q : Nat, m ≤ k ∧ j = .int .i64 m ∧ wx = W.drewN q ∧ Hid (∀ i, i < m → (fs[i]!.1.toList == nm.toList) = false)) (fun j _ => k - (intOf j).toNat)
              case atStart => exact ⟨0, q, Nat.zero_le _, rfl, rfl, (show Hid _ from fun i hi => absurd hi (Nat.not_lt_zero _))⟩
              case round =>
                obtain ⟨m, q2, hmk2, rfl, rfl, HN⟩ := hrel
                by_cases hmlt : m < k
                · obtain ⟨d0, _, _⟩ := HFA.out.2 m (by omega)
                  generalize hy : fs[m]!.1 = nm2 at d0
                  have HY := Lib.hid hy
                  clear hy
                  have hkn : (k : Int) < (fs.length : Int) := by omega
                  have hmn : (m : Int) < (fs.length : Int) := by omega
                  obtain ⟨q0, hq⟩ : ∃ q0 : Bool, (nm2.toList == nm.toList) = q0 := ⟨_, rfl⟩
                  have HQ := Lib.hid hq
                  cases q0 with
                  | true =>
                    go_wp2_with fail
                    go_quiet (fail)
                    go_wp2_with fail
                    go_ret
                    refine ⟨ret_int (HE.out.trans (HST2.out.trans (if_pos ?_))).symm, by rw [World.drewN_drewN]; exact Joins.below_draws _ _ _⟩
                    exact any_take_true hmlt hk (by show (fs[m]!.1.toList == nm.toList) = true; rw [HY.out]; exact HQ.out)
                  | false =>
                    go_wp2_with fail
                    go_quiet (fail)
                    go_wp2_with fail
                    go_roundw
                    case rel =>
                      refine ⟨m + 1, q2 + nq, by omega, by go_num, rfl, (show Hid _ from fun i hi => ?_)⟩
                      by_cases e : i = m
                      · subst e
                        rw [HY.out]
                        exact HQ.out
                      · exact HN.out i (by omega)
                    case measure => simp [intOf]; omega
                · obtain rfl : m = k := by omega
                  have HA : Hid (restF fs lines m = if ss.any longL = true then 4 else restF fs lines (m + 1)) :=
                    HST2.out.trans (by rw [any_take_false (fun i hi => HN.out i hi)]; rfl)
                  clear HST2 HN
                  go_wp2_with fail
                  go_loopw [7] (fun j wx => ∃ l q : Nat, l ≤ ss.length ∧ j = .int .i64 l ∧ wx = W.drewN q ∧ Hid (∀ i, i < l → longL (ss.getD i ByteArray.empty) = false)) (fun j _ => ss.length - (intOf j).toNat)
                  case atStart => exact ⟨0, q2, Nat.zero_le _, rfl, rfl, (show Hid _ from fun i hi => absurd hi (Nat.not_lt_zero _))⟩
                  case round =>
                    obtain ⟨l, q3, hl, rfl, rfl, HN⟩ := hrel
                    by_cases hll : l < ss.length
                    · obtain ⟨sb, so, rfl, _, hcell⟩ := HS.out (by omega)
                      have hc2 := hcell l hll
                      have hs2 := HSZk.out l hll
                      have hgl : ss.getD l ByteArray.empty = ss[l] := by rw [List.getD_eq_getElem?_getD, List.getElem?_eq_getElem hll]; rfl
                      have HGL := Lib.hid hgl
                      clear hcell hgl
                      generalize hy : ss.getD l ByteArray.empty = t at hc2 hs2
                      have HY := Lib.hid hy
                      clear hy
                      have C := lineMay_any t hs2
                      cases hq : longL t with
                      | true =>
                        rw [hq] at C
                        have HC := Lib.hid C
                        have HQ := Lib.hid hq
                        clear C hq hs2
                        go_wp2_with fail
                        refine (HC.out _).mono ?_
                        rintro e w' ⟨rfl, rfl⟩
                        go_wp2_with fail
                        go_ret
                        refine ⟨ret_int (HE.out.trans (HA.out.trans (if_pos ?_))).symm, Joins.below_draws _ _ _⟩
                        exact any_true hll (by rw [← HGL.out, HY.out]; exact HQ.out)
                      | false =>
                        rw [hq] at C
                        have HC := Lib.hid C
                        have HQ := Lib.hid hq
                        clear C hq hs2
                        go_wp2_with fail
                        refine (HC.out _).mono ?_
                        rintro e w' ⟨rfl, rfl⟩
                        go_wp2_with fail
                        go_roundw
                        case rel =>
                          refine ⟨l + 1, q3, by omega, by go_num, rfl, (show Hid _ from fun i hi => ?_)⟩
                          by_cases e : i = l
                          · subst e
                            rw [HY.out]
                            exact HQ.out
                          · exact HN.out i (by omega)
                        case measure => simp [intOf]; omega
                    · have hnone : ss.any longL = false := any_false fun i hi => by
                        have := HN.out i (by omega)
                        rwa [List.getD_eq_getElem?_getD, List.getElem?_eq_getElem hi] at this
                      have HA2 : Hid (restF fs lines m = restF fs lines (m + 1)) := HA.out.trans (by rw [hnone]; rfl)
                      clear hnone HA
                      go_wp2_with fail
                      go_roundw
                      case rel => exact ⟨m + 1, q3, by omega, by go_num, rfl, HE.out.trans HA2.out⟩
                      case measure => simp [intOf]; omega
        · obtain rfl : k = fs.length := by omega
          have HST := Lib.hid (restF_end (lines := lines) hlt)
          go_wp2_with fail
          go_loopw [8] (fun j wx => ∃ l q : Nat, l ≤ lines.length ∧ j = .int .i64 l ∧ wx = W.drewN q ∧ Hid (∀ i, i < l → longL (lines.getD i ByteArray.empty) = false)) (fun j _ => lines.length - (intOf j).toNat)
          case atStart => exact ⟨0, q, Nat.zero_le _, rfl, rfl, (show Hid _ from fun i hi => absurd hi (Nat.not_lt_zero _))⟩
          case round =>
            obtain ⟨l, q3, hl, rfl, rfl, HN⟩ := hrel
            by_cases hll : l < lines.length
            · obtain ⟨sb, so, rfl, _, hcell⟩ := HL.out (by omega)
              have hc2 := hcell l hll
              have hs2 := HLZ.out l hll
              have hgl : lines.getD l ByteArray.empty = lines[l] := by rw [List.getD_eq_getElem?_getD, List.getElem?_eq_getElem hll]; rfl
              have HGL := Lib.hid hgl
              clear hcell hgl
              generalize hy : lines.getD l ByteArray.empty = t at hc2 hs2
              have HY := Lib.hid hy
              clear hy
              have C := lineMay_any t hs2
              cases hq : longL t with
              | true =>
                rw [hq] at C
                have HC := Lib.hid C
                have HQ := Lib.hid hq
                clear C hq hs2
                go_wp2_with fail
                refine (HC.out _).mono ?_
                rintro e w' ⟨rfl, rfl⟩
                go_wp2_with fail
                go_ret
                refine ⟨ret_int (HE.out.trans (HST.out.trans (if_pos ?_))).symm, Joins.below_draws _ _ _⟩
                exact any_true hll (by rw [← HGL.out, HY.out]; exact HQ.out)
              | false =>
                rw [hq] at C
                have HC := Lib.hid C
                have HQ := Lib.hid hq
                clear C hq hs2
                go_wp2_with fail
                refine (HC.out _).mono ?_
                rintro e w' ⟨rfl, rfl⟩
                go_wp2_with fail
                go_roundw
                case rel =>
                  refine ⟨l + 1, q3, by omega, by go_num, rfl, (show Hid _ from fun i hi => ?_)⟩
                  by_cases e : i = l
                  · subst e
                    rw [HY.out]
                    exact HQ.out
                  · exact HN.out i (by omega)
                case measure => simp [intOf]; omega
            · have hnone : lines.any longL = false := any_false fun i hi => by
                have := HN.out i (by omega)
                rwa [List.getD_eq_getElem?_getD, List.getElem?_eq_getElem hi] at this
              have HE2 : Hid (worldErr fs lines = 0) := HE.out.trans (HST.out.trans (by rw [hnone]; rfl))
              clear hnone
              go_wp2_with fail
              go_ret
              exact ⟨ret_int HE2.out.symm, Joins.below_draws _ _ _⟩

theorem evalWorlds_any (a : Option Addr) (c : Nat) (fs : List FileL) (lv : Value) (lines : List ByteArray) (W : World)
    (hf : 0 < fs.length → ∃ b off : Nat, a = some ⟨b, off, none⟩ ∧ FilesAt W b off fs) (hl : StrsAt W lv lines) (hc : fs.length ≤ c) (hcm : c ≤ maxLen) (hlm : lines.length ≤ maxLen) (hm : ∀ j, j < fs.length → fs[j]!.2.2.length ≤ maxLen)
    (hsz : ∀ j, j < fs.length → ∀ i, i < fs[j]!.2.2.length → (fs[j]!.2.2.getD i ByteArray.empty).size ≤ maxLen) (hlz : ∀ i, i < lines.length → (lines.getD i ByteArray.empty).size ≤ maxLen) :
    Calls Try.prog 8 #[.slice a fs.length c, lv] W fun e w' => e = .returned (.bool true) ∧ Below W.heap.size W w' := by
  have C1 := checkWorld_any a c fs lv lines W hf hl hc hcm hlm hm
  have C2 := fun (w1 : World) (hb : Below W.heap.size W w1) => worldFault_any a c fs lv lines w1 (fun h => by obtain ⟨b, off, h1, h2⟩ := hf h; exact ⟨b, off, h1, h2.mono hb⟩) (hl.mono hb) hc hcm hlm hm hsz hlz
  generalize worldErr fs lines = r at C1 C2
  have HC1 := Lib.hid C1
  have HC2 := Lib.hid C2
  clear C1 C2 hf hl hm hsz hlz
  go_enter Try.func8, Try.ntmps8
  go_wp2_with fail
  refine HC1.out.mono ?_
  rintro e w1 ⟨rfl, hb1⟩
  go_wp2_with fail
  refine (HC2.out w1 hb1).mono ?_
  rintro e w2 ⟨rfl, hb2⟩
  go_wp2_with fail
  go_ret
  exact ⟨ret_bool (by simp), hb1.trans (hb2.mono hb1.size)⟩
end Go.Proofs.Ytfnmepnbbeijhaa
