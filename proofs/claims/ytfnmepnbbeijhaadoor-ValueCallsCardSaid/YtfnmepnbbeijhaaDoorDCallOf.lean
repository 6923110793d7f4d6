/- THE WALKS of the reference's CallOf. -/
import Derived.Test.YtfnmepnbbeijhaaDoorDCallS
namespace Go.Proofs.YtfnmepnbbeijhaaDoor
open Go Go.RowKit

theorem ext_bytes (s : ByteArray) (a b : Nat) : (s.extract a b).data.toList = (s.data.toList.drop a).take (b - a) := by
  rw [ByteArray.data_extract, Array.toList_extract]

theorem occ_piece (S U : ByteArray) (k : Nat) (h : k + U.size ≤ S.size) : Lib.occAt S.data.toList U.data.toList k = ((S.extract k (k + U.size)).toList == U.toList) := by
  rw [Lib.occAt_iff_take _ _ _ (by rw [← Lib.size_eq, ← Lib.size_eq]; exact h), Lib.toList_data, Lib.toList_data, ext_bytes, Nat.add_sub_cancel_left, Lib.size_eq U]

theorem index_over {S U : ByteArray} {k : Nat} (h : Lib.NoOcc S.data.toList U.data.toList k) (hk : ¬ k + U.size ≤ S.size) : Lib.index S.data.toList U.data.toList = -1 := by
  by_cases hU : U.data.toList = []
  · have h0 : U.size = 0 := by rw [Lib.size_eq, hU]; rfl
    have := h 0 (by omega)
    rw [hU] at this
    simp [Lib.occAt] at this
  · exact Lib.index_past hU h (by rw [← Lib.size_eq, ← Lib.size_eq]; omega)

set_option maxRecDepth 100000 in
set_option maxHeartbeats 1000000 in
theorem callof_length (b off cap : Nat) (ta : Bool) (na : Int) (sa : ByteArray) (w : World) (ha : numOk na)
    (a0 : w.cell? ⟨b, off, none⟩ = some (.bool ta)) (a1 : w.cell? ⟨b, off + 1, none⟩ = some (.int .i64 na)) (a2 : w.cell? ⟨b, off + 2, none⟩ = some (.string sa)) :
    Calls Tryd.prog 26 #[.string ⟨#[108, 101, 110, 103, 116, 104]⟩, .slice (some ⟨b, off, none⟩) 1 cap] w fun e w' =>
    e = .returned (resV false (strOf ta na sa).size ⟨#[]⟩ 0) ∧ Below w.heap.size w w' := by
  have HC := Lib.hid fun w1 => textOf_ok ta na sa w1 ha
  have A0 := el_alloc a0
  have A1 := el_alloc a1
  have A2 := el_alloc a2
  clear ha
  go_enter Tryd.func26, Tryd.ntmps26
  go_wp2_with fail
  refine (HC.out _).mono ?_
  rintro e w1 ⟨rfl, hb⟩
  have HK := Ca.start.next hb
  clear hb
  have c0 := fun o => (HK.alloc o).res.1.1
  have c1 := fun o => (HK.alloc o).res.1.2.1
  have c2 := fun o => (HK.alloc o).res.1.2.2
  have f0 := fun o => (HK.alloc o).res.2.1
  have f1 := fun o => (HK.alloc o).res.2.2.1
  have f2 := fun o => (HK.alloc o).res.2.2.2
  go_wp2_with (go_at_call 41; refine (refnum_any _ _).mono ?_; rintro e w9 ⟨rfl, rfl⟩)
  exact bodyPost_ret (v := resV false (strOf ta na sa).size ⟨#[]⟩ 0) (by simp [resV, results, Tryd.results26, go_sem, *]) rfl ⟨rfl, (((HK.alloc _).below.setCell (by simp) _).setCell (by simp) _).setCell (by simp) _⟩

set_option maxRecDepth 100000 in
set_option maxHeartbeats 1000000 in
theorem callof_index (b off cap : Nat) (ta : Bool) (na : Int) (sa : ByteArray) (tb : Bool) (nb : Int) (sb : ByteArray) (w : World) (ha : numOk na) (hb : numOk nb) (hl : (strOf ta na sa).size ≤ 1000000) (hl2 : (strOf tb nb sb).size ≤ 1000000)
    (a0 : w.cell? ⟨b, off, none⟩ = some (.bool ta)) (a1 : w.cell? ⟨b, off + 1, none⟩ = some (.int .i64 na)) (a2 : w.cell? ⟨b, off + 2, none⟩ = some (.string sa))
    (b0 : w.cell? ⟨b, off + 3, none⟩ = some (.bool tb)) (b1 : w.cell? ⟨b, off + 3 + 1, none⟩ = some (.int .i64 nb)) (b2 : w.cell? ⟨b, off + 3 + 2, none⟩ = some (.string sb)) :
    Calls Tryd.prog 26 #[.string ⟨#[105, 110, 100, 101, 120]⟩, .slice (some ⟨b, off, none⟩) 2 cap] w fun e w' =>
    e = .returned (resV false (Lib.index (strOf ta na sa).data.toList (strOf tb nb sb).data.toList + 1) ⟨#[]⟩ 0) ∧ Below w.heap.size w w' := by
  have HC1 := Lib.hid fun w1 => textOf_ok ta na sa w1 ha
  have HC2 := Lib.hid fun w1 => textOf_ok tb nb sb w1 hb
  have A0 := el_alloc a0
  have A1 := el_alloc a1
  have A2 := el_alloc a2
  have G0 := Lib.hid b0
  have G1 := Lib.hid b1
  have G2 := Lib.hid b2
  clear ha hb a0 a1 a2 b0 b1 b2
  generalize strOf ta na sa = S at HC1 hl ⊢
  generalize strOf tb nb sb = U at HC2 hl2 ⊢
  go_enter Tryd.func26, Tryd.ntmps26
  go_wp2_with fail
  refine (HC1.out _).mono ?_
  rintro e w1 ⟨rfl, hb⟩
  have HK := Ca.start.next hb
  clear hb
  have b0 := HK.el G0.out
  have b1 := HK.el G1.out
  have b2 := HK.el G2.out
  go_wp2_with fail
  refine (HC2.out _).mono ?_
  rintro e w2 ⟨rfl, hb⟩
  have HK := HK.next hb
  clear hb b0 b1 b2
  go_wp2_with fail
  go_loopw [8] (fun i wx => ∃ k : Nat, k ≤ S.size + 1 ∧ i = .int .i64 k ∧ Hid (Lib.NoOcc S.data.toList U.data.toList k) ∧ wx = w2) (fun i _ => S.size + 1 - (intOf i).toNat)
  case atStart => exact ⟨0, by omega, rfl, Lib.NoOcc.zero _ _, rfl⟩
  case round =>
    obtain ⟨k, hk, rfl, HN, rfl⟩ := hrel
    by_cases hlt : k + U.size ≤ S.size
    · have ho := occ_piece S U k hlt
      have hslice : ∀ wx, (Instr.slice 9 (.string S) (some (.int .i64 (k : Int))) (some (.int .i64 ((k : Int) + U.size))) none).run Tryd.prog wx = .ok (.string (S.extract k (k + U.size))) wx := fun wx => by
        have h := run_slice_string (P := Tryd.prog) wx 9 S .i64 .i64 (k : Int) ((k : Int) + U.size) Tryd.underlying9 (by omega) (by omega) (by omega)
        rw [show (k : Int).toNat = k by omega, show ((k : Int) + U.size).toNat = k + U.size by omega] at h
        exact h
      by_cases hq : ((S.extract k (k + U.size)).toList == U.toList) = true
      · have HX := Lib.hid (Lib.index_hit HN.out (by rw [← Lib.size_eq]; omega) (ho.trans hq))
        clear ho
        have c0 := fun o => (HK.alloc o).res.1.1
        have c1 := fun o => (HK.alloc o).res.1.2.1
        have c2 := fun o => (HK.alloc o).res.1.2.2
        have f0 := fun o => (HK.alloc o).res.2.1
        have f1 := fun o => (HK.alloc o).res.2.2.1
        have f2 := fun o => (HK.alloc o).res.2.2.2
        go_wp2_with (go_at_call 41; refine (refnum_any _ _).mono ?_; rintro e w9 ⟨rfl, rfl⟩)
        exact bodyPost_ret (v := resV false (k + 1) ⟨#[]⟩ 0) (by simp [resV, results, Tryd.results26, go_sem, *]) rfl ⟨by rw [HX.out], (((HK.alloc _).below.setCell (by simp) _).setCell (by simp) _).setCell (by simp) _⟩
      · rw [Bool.not_eq_true] at hq
        have HX := Lib.hid (Lib.NoOcc.succ HN.out (ho.trans hq))
        clear ho
        go_wp2_with fail
        go_roundw
        case rel => exact ⟨k + 1, by omega, by go_num, HX, trivial⟩
        case measure => simp [intOf]; omega
    · have HX := Lib.hid (index_over HN.out hlt)
      have c0 := fun o => (HK.alloc o).res.1.1
      have c1 := fun o => (HK.alloc o).res.1.2.1
      have c2 := fun o => (HK.alloc o).res.1.2.2
      have f0 := fun o => (HK.alloc o).res.2.1
      have f1 := fun o => (HK.alloc o).res.2.2.1
      have f2 := fun o => (HK.alloc o).res.2.2.2
      go_wp2_with (go_at_call 41; refine (refnum_any _ _).mono ?_; rintro e w9 ⟨rfl, rfl⟩)
      exact bodyPost_ret (v := resV false 0 ⟨#[]⟩ 0) (by simp [resV, results, Tryd.results26, go_sem, *]) rfl ⟨by rw [HX.out]; rfl, (((HK.alloc _).below.setCell (by simp) _).setCell (by simp) _).setCell (by simp) _⟩

end Go.Proofs.YtfnmepnbbeijhaaDoor
