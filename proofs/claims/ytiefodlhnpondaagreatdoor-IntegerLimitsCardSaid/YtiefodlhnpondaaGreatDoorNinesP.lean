/-
  Plain facts on texts of nines. No code of the program is named here.
-/
import Derived.Test.YtiefodlhnpondaaGreatDoorParse
import Derived.Test.YtiefodlhnpondaaGreatDoorBoth
namespace Go.Proofs.YtiefodlhnpondaaGreatDoor

theorem nines_valB (k : Nat) : valB (List.replicate k 57) + 1 = 10 ^ k := by
  induction k with
  | zero => rfl
  | succ k ih =>
    rw [List.replicate_succ, valB_cons, List.length_replicate, Nat.pow_succ]
    have : (57 : UInt8).toNat - 48 = 9 := by decide
    rw [this]
    omega
theorem text_of_digits {l : List UInt8} {z : Nat} (hne : l ≠ []) (hd : ∀ c ∈ l, 48 ≤ c.toNat ∧ c.toNat ≤ 57) (hh : l.head? ≠ some 48) (hz : z = valB l) : txt (z : Int) = l := by
  unfold txt
  rw [if_neg (by omega), Int.natAbs_natCast, hz]
  exact (txtN_valB hne hd hh).1
theorem nines_txt {k : Nat} (hk : 0 < k) : txt ((10 ^ k - 1 : Nat) : Int) = List.replicate k 57 := by
  have h := nines_valB k
  refine text_of_digits ?_ ?_ ?_ (by omega)
  · intro e
    have := congrArg List.length e
    simp at this
    omega
  · intro c hc
    rw [List.eq_of_mem_replicate hc]
    decide
  · cases k with
    | zero => omega
    | succ k => simp [List.replicate_succ]
theorem one_nines_txt (k : Nat) : txt ((2 * 10 ^ k - 1 : Nat) : Int) = 49 :: List.replicate k 57 := by
  have h := nines_valB k
  refine text_of_digits (by simp) ?_ (by simp) ?_
  · intro c hc
    rcases List.mem_cons.1 hc with h | h
    · rw [h]; decide
    · rw [List.eq_of_mem_replicate h]; decide
  · rw [valB_cons, List.length_replicate]
    have : (49 : UInt8).toNat - 48 = 1 := by decide
    rw [this]
    omega
theorem neg_nines_txt {k : Nat} (hk : 0 < k) : txt (-((10 ^ k - 1 : Nat) : Int)) = 45 :: List.replicate k 57 := by
  have h1 := nines_txt hk
  have hp : 10 ≤ 10 ^ k := by
    calc 10 = 10 ^ 1 := rfl
      _ ≤ 10 ^ k := Nat.pow_le_pow_right (by omega) hk
  unfold txt at h1 ⊢
  rw [if_neg (by omega), Int.natAbs_natCast] at h1
  rw [if_pos (by omega), Int.natAbs_neg, Int.natAbs_natCast, h1]
theorem str_of_txt {z : Int} {s : ByteArray} {l : List UInt8} (h : s.data.toList = l) (e : txt z = l) : s = str z := by
  apply ByteArray.ext
  apply Array.toList_inj.1
  rw [h, str_list, e]
theorem nDig_exact {z k : Nat} (h1 : 10 ^ k ≤ z) (h2 : z < 10 ^ (k + 1)) : nDig z = k + 1 := by
  have h3 := (nDig_le (n := z) (k := k + 1) (by omega)).2 h2
  rcases Nat.eq_zero_or_pos k with h | h
  · subst h
    have := nDig_pos z
    omega
  · have : ¬ nDig z ≤ k := fun h4 => by
      have := (nDig_le h).1 h4
      omega
    omega
/-- The product of the powers that IntegerLimits takes has m + n + 1 digits. -/
theorem limit_digits (m n : Nat) : nDig (10 ^ m * (2 * 10 ^ n - 1)) = m + n + 1 := by
  have hp : 0 < 10 ^ n := Nat.pow_pos (by omega)
  have hm : 0 < 10 ^ m := Nat.pow_pos (by omega)
  refine nDig_exact ?_ ?_
  · rw [Nat.pow_add]
    exact Nat.mul_le_mul (Nat.le_refl _) (by omega)
  · rw [show m + n + 1 = m + (n + 1) from by omega, Nat.pow_add]
    exact Nat.mul_lt_mul_of_pos_left (by rw [Nat.pow_succ]; omega) hm
end Go.Proofs.YtiefodlhnpondaaGreatDoor
