/- PLAIN MATHEMATICS of numbers and texts: what value.Num, value.Op, value.Call answer, as Lean functions of lists of bytes; no program in sight. -/
import Derived.Lib.Index
import Derived.Lib.IndexLaws
import Derived.Lib.Bytealg
import Derived.Lib.ItoaNum
import Derived.Lib.TrimByte
import Derived.Lib.Strings
namespace Go.Proofs.YtfnmepnbbeijhaaDoor
namespace M

/-! ### A text as a number -/

/-- The digits at the head of a text, behind what stands already; none: it has become too great. -/
def digs : Nat → List UInt8 → Option Nat
  | acc, [] => some acc
  | acc, c :: r => if 48 ≤ c.toNat ∧ c.toNat ≤ 57 then (if 1099511627776 < 10 * acc + (c.toNat - 48) then none else digs (10 * acc + (c.toNat - 48)) r) else some acc

/-- What a text begins with, behind blanks: perhaps a minus, then digits. -/
def numL (l : List UInt8) : Option Int :=
  if Lib.hasPrefix (Lib.trimLeftB l 32) [45] then (digs 0 ((Lib.trimLeftB l 32).drop 1)).map fun n => -(n : Int)
  else (digs 0 (Lib.trimLeftB l 32)).map fun n => (n : Int)

theorem digs_le : ∀ (l : List UInt8) (acc n : Nat), acc ≤ 1099511627776 → digs acc l = some n → n ≤ 1099511627776
  | [], acc, n, ha, h => by
    have : acc = n := Option.some.inj h
    omega
  | c :: r, acc, n, ha, h => by
    unfold digs at h
    split at h
    · split at h
      · cases h
      · exact digs_le r _ n (by omega) h
    · have : acc = n := Option.some.inj h
      omega

theorem numL_bd {l : List UInt8} {n : Int} (h : numL l = some n) : -1099511627776 ≤ n ∧ n ≤ 1099511627776 := by
  unfold numL at h
  split at h
  · cases hd : digs 0 ((Lib.trimLeftB l 32).drop 1) with
    | none => rw [hd] at h; cases h
    | some k =>
      rw [hd] at h
      have e : -(k : Int) = n := Option.some.inj h
      have := digs_le _ _ _ (by omega) hd
      omega
  · cases hd : digs 0 (Lib.trimLeftB l 32) with
    | none => rw [hd] at h; cases h
    | some k =>
      rw [hd] at h
      have e : (k : Int) = n := Option.some.inj h
      have := digs_le _ _ _ (by omega) hd
      omega

/-! ### A round of the loop over digits -/

theorem digs_end {l : List UInt8} {k acc : Nat} (h : ¬ k < l.length) : digs acc (l.drop k) = some acc := by
  rw [List.drop_eq_nil_iff.2 (by omega)]
  rfl

theorem digs_stop {l : List UInt8} {k acc : Nat} (hk : k < l.length) (h : ¬ (48 ≤ l[k].toNat ∧ l[k].toNat ≤ 57)) : digs acc (l.drop k) = some acc := by
  rw [List.drop_eq_getElem_cons hk]
  unfold digs
  rw [if_neg h]

theorem digs_over {l : List UInt8} {k acc : Nat} (hk : k < l.length) (h : 48 ≤ l[k].toNat ∧ l[k].toNat ≤ 57) (ho : 1099511627776 < 10 * acc + (l[k].toNat - 48)) : digs acc (l.drop k) = none := by
  rw [List.drop_eq_getElem_cons hk]
  unfold digs
  rw [if_pos h, if_pos ho]

theorem digs_on {l : List UInt8} {k acc : Nat} (hk : k < l.length) (h : 48 ≤ l[k].toNat ∧ l[k].toNat ≤ 57) (ho : ¬ 1099511627776 < 10 * acc + (l[k].toNat - 48)) :
    digs acc (l.drop k) = digs (10 * acc + (l[k].toNat - 48)) (l.drop (k + 1)) := by
  rw [List.drop_eq_getElem_cons hk]
  conv => lhs; unfold digs
  rw [if_pos h, if_neg ho]

/-! ### Two texts, byte by byte -/

theorem bytesLess_iff : ∀ (a b : List UInt8), Op.bytesLess a b = decide (Lib.compareBytes a b < 0)
  | [], [] => rfl
  | [], _ :: _ => rfl
  | _ :: _, [] => rfl
  | x :: a, y :: b => by
    unfold Op.bytesLess Lib.compareBytes
    by_cases h1 : x < y
    · simp [h1]
    · by_cases h2 : y < x
      · have hne : ¬ x = y := fun e => by subst e; exact h1 h2
        simp [h1, h2, hne]
      · have he : x = y := by
          apply UInt8.toNat_inj.1
          rw [UInt8.lt_iff_toNat_lt] at h1 h2
          omega
        subst he
        simp [bytesLess_iff a b]

theorem compare_zero : ∀ (a b : List UInt8), Lib.compareBytes a b = 0 ↔ a = b
  | [], [] => by simp [Lib.compareBytes]
  | [], _ :: _ => by simp [Lib.compareBytes]
  | _ :: _, [] => by simp [Lib.compareBytes]
  | x :: a, y :: b => by
    unfold Lib.compareBytes
    by_cases h1 : x < y
    · have hne : ¬ x = y := fun e => by subst e; exact UInt8.lt_irrefl _ h1
      simp [h1, hne]
    · by_cases h2 : y < x
      · have hne : ¬ x = y := fun e => by subst e; exact h1 h2
        simp [h1, h2, hne]
      · have he : x = y := by
          apply UInt8.toNat_inj.1
          rw [UInt8.lt_iff_toNat_lt] at h1 h2
          omega
        subst he
        simp [compare_zero a b]

theorem compare_bd : ∀ (a b : List UInt8), -1 ≤ Lib.compareBytes a b ∧ Lib.compareBytes a b ≤ 1
  | [], [] => by simp [Lib.compareBytes]
  | [], _ :: _ => by simp [Lib.compareBytes]
  | _ :: _, [] => by simp [Lib.compareBytes]
  | x :: a, y :: b => by
    unfold Lib.compareBytes
    split
    · omega
    · split
      · omega
      · exact compare_bd a b

/-! ### A product, by halves -/

/-- The round's law: what is summed, and what is still to come. -/
theorem half_even (a b s : Int) (h : b % 2 ≠ 1) : s + a * b = s + (2 * a) * (b / 2) := by
  have h1 : b = 2 * (b / 2) := by omega
  rw [show a * b = a * (2 * (b / 2)) by rw [← h1], Int.mul_comm 2 a, Int.mul_assoc]

theorem half_odd (a b s : Int) (h : b % 2 = 1) : s + a * b = (s + a) + (2 * a) * (b / 2) := by
  have h1 : b = 2 * (b / 2) + 1 := by omega
  rw [show a * b = a * (2 * (b / 2) + 1) by rw [← h1], Int.mul_add, Int.mul_one, ← Int.mul_assoc, Int.mul_comm a 2]
  omega

/-! ### Decimal digits -/

theorem decDigits_small {u : Nat} (h : u < 10) : Lib.decDigits u = [UInt8.ofNat (48 + u)] := by rw [Lib.decDigits, dif_pos h]
theorem decDigits_big {u : Nat} (h : ¬ u < 10) : Lib.decDigits u = Lib.decDigits (u / 10) ++ Lib.decDigits (u % 10) := by
  rw [Lib.decDigits, dif_neg h, decDigits_small (Nat.mod_lt _ (by omega))]
theorem decDigits_ne (u : Nat) : Lib.decDigits u ≠ [] := by
  unfold Lib.decDigits
  split <;> simp

theorem decDigits_len : ∀ (k u : Nat), u < 10 ^ (k + 1) → (Lib.decDigits u).length ≤ k + 1
  | 0, u, h => by rw [decDigits_small (by simpa using h)]; simp
  | k + 1, u, h => by
    by_cases h1 : u < 10
    · rw [decDigits_small h1]; simp
    · rw [Lib.decDigits, dif_neg h1, List.length_append]
      have := decDigits_len k (u / 10) (Nat.div_lt_of_lt_mul (by rw [Nat.pow_succ] at h; omega))
      simp
      omega
end M
end Go.Proofs.YtfnmepnbbeijhaaDoor
