/- THE WALKS of value.Call. -/
import Derived.Test.YtfnmepnbbeijhaaDoorDTexts
import Derived.Deep.RegionWith
namespace Go.Proofs.YtfnmepnbbeijhaaDoor
open Go Go.RowKit

theorem shaped_next {P : Program} {w w' : World} (h : w.ShapedOpen P) (hb : Below w.heap.size w w') : w'.ShapedOpen P :=
  h.keptBut (hb.frame fun _ => False) (fun _ h => h.elim)

theorem index_le : ∀ (s sub : List UInt8), Lib.index s sub ≤ s.length
  | [], sub => by
    unfold Lib.index
    split <;> simp
  | b :: l, sub => by
    have ih := index_le l sub
    unfold Lib.index
    rw [List.length_cons]
    split
    · omega
    · split <;> omega

/-- Where a piece of a text begins and ends. -/
def lowS (x : Int) (len : Nat) : Nat := (min (max x 1) (len + 1) - 1).toNat
def highS (x n : Int) (len : Nat) : Nat := (min (max (x + n) (min (max x 1) (len + 1))) (len + 1) - 1).toNat

/-- What lay there lies there still, and a result's box behind it. -/
structure Ca (w w' : World) (T : TypeId) : Prop where
  h : Below (w.heap.size + 1) (w.alloc (.cells #[.bool false, .int .i64 0, .string ⟨#[]⟩] T)) w'
theorem Ca.start {w : World} {T : TypeId} : Ca w (w.alloc (.cells #[.bool false, .int .i64 0, .string ⟨#[]⟩] T)) T := ⟨Below.refl _ _⟩
theorem Ca.startd {w : World} {T : TypeId} : Ca w (w.alloc (.cells #[.bool false, .int .i64 0, .string ⟨#[]⟩] T)).drew T := ⟨(Below.refl _ _).drew⟩
theorem Ca.next {w w1 w2 : World} {T : TypeId} (h : Ca w w1 T) (h2 : Below w1.heap.size w1 w2) : Ca w w2 T := ⟨below_next h.h h2 (by simp)⟩
theorem Ca.alloc {w w1 : World} {T : TypeId} (h : Ca w w1 T) (o : Obj) : Ca w (w1.alloc o) T := h.next ((Below.refl _ _).alloc (Nat.le_refl _) o)
theorem Ca.below {w w1 : World} {T : TypeId} (h : Ca w w1 T) : Below w.heap.size w w1 := box_below h.h
theorem Ca.res {w w1 : World} {T : TypeId} (h : Ca w w1 T) : (w1.cell? ⟨w.heap.size, 0, none⟩ = some (.bool false) ∧ w1.cell? ⟨w.heap.size, 1, none⟩ = some (.int .i64 0) ∧ w1.cell? ⟨w.heap.size, 2, none⟩ = some (.string ⟨#[]⟩)) ∧
    w1.frozen? ⟨w.heap.size, 0, none⟩ = false ∧ w1.frozen? ⟨w.heap.size, 1, none⟩ = false ∧ w1.frozen? ⟨w.heap.size, 2, none⟩ = false := boxw rfl h.h
theorem Ca.el {w w1 : World} {T : TypeId} {p : Addr} {v : Value} (h : Ca w w1 T) (e : w.cell? p = some v) : w1.cell? p = some v := (h.below.cell (World.block_lt_of_cell? w p e)).trans e
theorem el_alloc {w : World} {p : Addr} {v : Value} (e : w.cell? p = some v) (o : Obj) : (w.alloc o).cell? p = some v :=
  (((Below.refl w.heap.size w).alloc (Nat.le_refl _) o).cell (World.block_lt_of_cell? w p e)).trans e

set_option maxRecDepth 100000 in
set_option maxHeartbeats 1000000 in
theorem call_length (b off cap : Nat) (ta : Bool) (na : Int) (sa : ByteArray) (w : World) (ht : Pow10 w) (ha : numOk na)
    (a0 : w.cell? ⟨b, off, none⟩ = some (.bool ta)) (a1 : w.cell? ⟨b, off + 1, none⟩ = some (.int .i64 na)) (a2 : w.cell? ⟨b, off + 2, none⟩ = some (.string sa)) :
    Calls Tryd.prog 25 #[.string ⟨#[108, 101, 110, 103, 116, 104]⟩, .slice (some ⟨b, off, none⟩) 1 cap] w fun e w' =>
    e = .returned (resV false (strOf ta na sa).size ⟨#[]⟩ 0) ∧ Below w.heap.size w w' := by
  have HC := Lib.hid fun w1 h => str_ok ta na sa w1 ha h
  have HT := Lib.hid ht
  have A0 := el_alloc a0
  have A1 := el_alloc a1
  have A2 := el_alloc a2
  clear ht ha
  go_enter Tryd.func25, Tryd.ntmps25
  go_wp2_with fail
  refine (HC.out _ (HT.out.mono Ca.start.below)).mono ?_
  rintro e w1 ⟨rfl, hb⟩
  have HK := Ca.start.next hb
  clear hb
  have c0 := fun o => (HK.alloc o).res.1.1
  have c1 := fun o => (HK.alloc o).res.1.2.1
  have c2 := fun o => (HK.alloc o).res.1.2.2
  have f0 := fun o => (HK.alloc o).res.2.1
  have f1 := fun o => (HK.alloc o).res.2.2.1
  have f2 := fun o => (HK.alloc o).res.2.2.2
  go_wp2_with (go_at_call 20; refine (number_any _ _).mono ?_; rintro e w2 ⟨rfl, rfl⟩)
  exact bodyPost_ret (v := resV false (strOf ta na sa).size ⟨#[]⟩ 0) (by simp [resV, results, Tryd.results25, go_sem, *]) rfl ⟨rfl, (((HK.alloc _).below.setCell (by simp) _).setCell (by simp) _).setCell (by simp) _⟩

set_option maxRecDepth 100000 in
set_option maxHeartbeats 1000000 in
theorem call_index (b off cap : Nat) (ta : Bool) (na : Int) (sa : ByteArray) (tb : Bool) (nb : Int) (sb : ByteArray) (w : World) (ht : Pow10 w) (hsh : w.ShapedOpen Tryd.prog) (ha : numOk na) (hb : numOk nb) (hl : (strOf ta na sa).size ≤ 1000000)
    (a0 : w.cell? ⟨b, off, none⟩ = some (.bool ta)) (a1 : w.cell? ⟨b, off + 1, none⟩ = some (.int .i64 na)) (a2 : w.cell? ⟨b, off + 2, none⟩ = some (.string sa))
    (b0 : w.cell? ⟨b, off + 3, none⟩ = some (.bool tb)) (b1 : w.cell? ⟨b, off + 3 + 1, none⟩ = some (.int .i64 nb)) (b2 : w.cell? ⟨b, off + 3 + 2, none⟩ = some (.string sb)) :
    Calls Tryd.prog 25 #[.string ⟨#[105, 110, 100, 101, 120]⟩, .slice (some ⟨b, off, none⟩) 2 cap] w fun e w' =>
    e = .returned (resV false (Lib.index (strOf ta na sa).data.toList (strOf tb nb sb).data.toList + 1) ⟨#[]⟩ 0) ∧ Below w.heap.size w w' := by
  have HT := Lib.hid ht
  have HSH := Lib.hid hsh
  have HA := Lib.hid ha
  have HB := Lib.hid hb
  have HS := Lib.hid fun t n s w1 (h1 : Hid (numOk n)) h => str_ok t n s w1 h1.out h
  have i0 := Lib.index_ge (strOf ta na sa).data.toList (strOf tb nb sb).data.toList
  have i1 := index_le (strOf ta na sa).data.toList (strOf tb nb sb).data.toList
  rw [← Lib.size_eq] at i1
  have CI := fun w1 h => Tryd.strings_Index_shaped (strOf ta na sa) (strOf tb nb sb) w1 h (by omega)
  generalize Lib.index (strOf ta na sa).data.toList (strOf tb nb sb).data.toList = ix at i0 i1 CI ⊢
  have HI := Lib.hid CI
  have i2 : ix ≤ 1000000 := by omega
  have hw : IntKind.i64.wrap (ix + 1) = ix + 1 := IntWalk.i64_in _ (by omega)
  have A0 := el_alloc a0
  have A1 := el_alloc a1
  have A2 := el_alloc a2
  have B0 := el_alloc b0
  have B1 := el_alloc b1
  have B2 := el_alloc b2
  have E0 := Lib.hid a0
  have E1 := Lib.hid a1
  have E2 := Lib.hid a2
  have G0 := Lib.hid b0
  have G1 := Lib.hid b1
  have G2 := Lib.hid b2
  clear ht ha hb hsh CI hl i1 a0 a1 a2 b0 b1 b2
  go_enter Tryd.func25, Tryd.ntmps25
  go_wp2_with fail
  go_region_with
    (first
      | (go_at_call 15; refine (HS.out _ _ _ _ (by assumption) (HT.out.mono (Ca.below (by first | assumption | exact Ca.startd)))).mono ?_; rintro e w1 ⟨rfl, hbm⟩; have HK := Ca.next (by first | assumption | exact Ca.startd) hbm; have a0 := HK.el E0.out; have a1 := HK.el E1.out; have a2 := HK.el E2.out; have b0 := HK.el G0.out; have b1 := HK.el G1.out; have b2 := HK.el G2.out; clear hbm)
      | (go_at_call 45; refine (HI.out _ (shaped_next HSH.out (Ca.below (by assumption)))).mono ?_; rintro e w2 ⟨rfl, rfl⟩)
      | (go_at_call 20; refine (number_any _ _).mono ?_; rintro e w2 ⟨rfl, rfl⟩; have c0 := fun o => (HK.alloc o).res.1.1; have c1 := fun o => (HK.alloc o).res.1.2.1; have c2 := fun o => (HK.alloc o).res.1.2.2; have f0 := fun o => (HK.alloc o).res.2.1; have f1 := fun o => (HK.alloc o).res.2.2.1; have f2 := fun o => (HK.alloc o).res.2.2.2))
  all_goals go_wp2_with fail
  all_goals
    exact bodyPost_ret (v := resV false (ix + 1) ⟨#[]⟩ 0) (by simp [resV, results, Tryd.results25, go_sem, *]) rfl ⟨rfl, (((HK.alloc _).below.setCell (by simp) _).setCell (by simp) _).setCell (by simp) _⟩

set_option maxRecDepth 100000 in
set_option maxHeartbeats 1000000 in
theorem call_substr_bad (b off cap : Nat) (tb : Bool) (nb : Int) (sb : ByteArray) (tc : Bool) (nc : Int) (sc : ByteArray) (w : World) (lb : sb.size ≤ maxLen) (lc : sc.size ≤ maxLen)
    (b0 : w.cell? ⟨b, off + 3, none⟩ = some (.bool tb)) (b1 : w.cell? ⟨b, off + 3 + 1, none⟩ = some (.int .i64 nb)) (b2 : w.cell? ⟨b, off + 3 + 2, none⟩ = some (.string sb))
    (c0 : w.cell? ⟨b, off + 6, none⟩ = some (.bool tc)) (c1 : w.cell? ⟨b, off + 6 + 1, none⟩ = some (.int .i64 nc)) (c2 : w.cell? ⟨b, off + 6 + 2, none⟩ = some (.string sc)) (hx : numOf tb nb sb = none ∨ numOf tc nc sc = none) :
    Calls Tryd.prog 25 #[.string ⟨#[115, 117, 98, 115, 116, 114]⟩, .slice (some ⟨b, off, none⟩) 3 cap] w fun e w' =>
    e = .returned (resV false 0 ⟨#[]⟩ 3) ∧ Below w.heap.size w w' := by
  have C1 := fun w1 => num_any tb nb sb lb w1
  have C2 := fun w1 => num_any tc nc sc lc w1
  have B0 := el_alloc b0
  have B1 := el_alloc b1
  have B2 := el_alloc b2
  have G0 := Lib.hid c0
  have G1 := Lib.hid c1
  have G2 := Lib.hid c2
  generalize numOf tb nb sb = x at C1 hx
  generalize numOf tc nc sc = y at C2 hx
  have hn : (numE none).1 = 0 ∧ (numE none).2 = 2 := ⟨rfl, rfl⟩
  cases x with
  | none =>
    rw [hn.1, hn.2] at C1
    generalize numE y = ye at C2
    obtain ⟨y1, y2⟩ := ye
    have HC1 := Lib.hid C1
    have HC2 := Lib.hid C2
    clear C1 C2 lb lc hx hn b0 b1 b2 c0 c1 c2
    go_enter Tryd.func25, Tryd.ntmps25
    go_wp2_with fail
    refine (HC1.out _).mono ?_
    rintro e w1 ⟨rfl, hb⟩
    have HK := Ca.start.next hb
    clear hb
    have c0 := HK.el G0.out
    have c1 := HK.el G1.out
    have c2 := HK.el G2.out
    go_wp2_with fail
    refine (HC2.out _).mono ?_
    rintro e w2 ⟨rfl, hb⟩
    have HK := HK.next hb
    clear hb c0 c1 c2
    obtain ⟨⟨c0, c1, c2⟩, f0, f1, f2⟩ := HK.res
    go_wp2_with fail
    exact bodyPost_ret (v := resV false 0 ⟨#[]⟩ 3) (by simp [resV, results, Tryd.results25, go_sem, *]) rfl ⟨rfl, ((HK.below.setCell (by simp) _).setCell (by simp) _).setCell (by simp) _⟩
  | some x =>
    obtain rfl : y = none := by rcases hx with h | h; cases h; exact h
    have hs : (numE (some x)).1 = x ∧ (numE (some x)).2 = 0 := ⟨rfl, rfl⟩
    rw [hs.1, hs.2] at C1
    rw [hn.1, hn.2] at C2
    have HC1 := Lib.hid C1
    have HC2 := Lib.hid C2
    clear C1 C2 lb lc hx hn hs b0 b1 b2 c0 c1 c2
    go_enter Tryd.func25, Tryd.ntmps25
    go_wp2_with fail
    refine (HC1.out _).mono ?_
    rintro e w1 ⟨rfl, hb⟩
    have HK := Ca.start.next hb
    clear hb
    have c0 := HK.el G0.out
    have c1 := HK.el G1.out
    have c2 := HK.el G2.out
    go_wp2_with fail
    refine (HC2.out _).mono ?_
    rintro e w2 ⟨rfl, hb⟩
    have HK := HK.next hb
    clear hb c0 c1 c2
    obtain ⟨⟨c0, c1, c2⟩, f0, f1, f2⟩ := HK.res
    go_wp2_with fail
    exact bodyPost_ret (v := resV false 0 ⟨#[]⟩ 3) (by simp [resV, results, Tryd.results25, go_sem, *]) rfl ⟨rfl, ((HK.below.setCell (by simp) _).setCell (by simp) _).setCell (by simp) _⟩

end Go.Proofs.YtfnmepnbbeijhaaDoor
