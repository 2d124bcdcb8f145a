/-
  Plain facts on the text of a number, group by group of four digits: the highest group as it is, each further one with zeros in front. No code of the program is named here.
-/
import Derived.Test.YtgngepbemgbbeaaGreatDoorZParse
import Derived.Test.YtgngepbemgbbeaaGreatDoorZNum
namespace Go.Proofs.YtgngepbemgbbeaaGreatDoor

/-- A group with zeros in front, so that it has four digits. -/
def pad4 (d : Nat) : List UInt8 := List.replicate (4 - (txtN d).length) 48 ++ txtN d
theorem valB_zeros (k : Nat) : valB (List.replicate k 48) = 0 := by
  induction k with
  | zero => rfl
  | succ k ih => rw [List.replicate_succ, valB_cons, ih]; simp
theorem valB_pad4 (d : Nat) : valB (pad4 d) = d := by rw [pad4, valB_append, valB_zeros, valB_txtN]; simp
theorem txtN_le4 {d : Nat} (h : d < 10000) : (txtN d).length ≤ 4 := (nDig_le (n := d) (k := 4) (by omega)).2 h
theorem pad4_length {d : Nat} (h : d < 10000) : (pad4 d).length = 4 := by
  have := txtN_le4 h
  rw [pad4, List.length_append, List.length_replicate]; omega
theorem pad4_digits (d : Nat) : ∀ c ∈ pad4 d, 48 ≤ c.toNat ∧ c.toNat ≤ 57 := by
  intro c hc
  rcases List.mem_append.1 hc with h | h
  · rw [List.eq_of_mem_replicate h]; decide
  · exact txtN_digits d c h
theorem txtN_step {n : Nat} (h : 10000 ≤ n) : txtN n = txtN (n / 10000) ++ pad4 (n % 10000) := by
  have hp : 0 < n / 10000 := by omega
  have h1 : (txtN (n / 10000) ++ pad4 (n % 10000)).head? ≠ some 48 := by
    have := txtN_head hp
    cases ht : txtN (n / 10000) with
    | nil => exact absurd ht (txtN_ne _)
    | cons c t => rw [ht] at this; simpa using this
  have h2 := (txtN_valB (l := txtN (n / 10000) ++ pad4 (n % 10000)) (by simp [txtN_ne]) (by
    intro c hc
    rcases List.mem_append.1 hc with h | h
    · exact txtN_digits _ c h
    · exact pad4_digits _ c h) h1).1
  rw [valB_append, valB_txtN, valB_pad4, pad4_length (by omega)] at h2
  rw [show n / 10000 * 10 ^ 4 + n % 10000 = n from by omega] at h2
  exact h2
theorem dig_getD {B : Nat} (hB : 2 ≤ B) (i : Nat) : ∀ n, (dig B n)[i]?.getD 0 = n / B ^ i % B := by
  induction i with
  | zero =>
    intro n
    rcases Nat.eq_zero_or_pos n with h | h
    · subst h; simp [dig_zero]
    · rw [dig_pos hB h]; simp
  | succ i ih =>
    intro n
    rcases Nat.eq_zero_or_pos n with h | h
    · subst h; simp [dig_zero]
    · rw [dig_pos hB h, List.getElem?_cons_succ, ih, Nat.div_div_eq_div_mul, Nat.pow_succ, Nat.mul_comm B]
/-- What has been written after some groups. -/
def bytesUp (L : Nat) (l : List (Nat × Nat)) : List UInt8 := l.foldl (fun acc p => acc ++ if p.1 + 1 < L then pad4 p.2 else txtN p.2) []
theorem bytesUp_snoc (L : Nat) (l : List (Nat × Nat)) (p : Nat × Nat) : bytesUp L (l ++ [p]) = bytesUp L l ++ if p.1 + 1 < L then pad4 p.2 else txtN p.2 := by simp [bytesUp]
theorem bytesUp_length (L : Nat) (l : List (Nat × Nat)) (acc : List UInt8) (h : ∀ p ∈ l, p.2 < 10000) : (l.foldl (fun (acc : List UInt8) (p : Nat × Nat) => acc ++ if p.1 + 1 < L then pad4 p.2 else txtN p.2) acc).length ≤ acc.length + 4 * l.length := by
  induction l generalizing acc with
  | nil => simp
  | cons p l ih =>
    have h1 := ih (acc ++ if p.1 + 1 < L then pad4 p.2 else txtN p.2) (fun q hq => h q (List.mem_cons_of_mem _ hq))
    have hp := h p (by simp)
    have : (if p.1 + 1 < L then pad4 p.2 else txtN p.2).length ≤ 4 := by
      split
      · exact Nat.le_of_eq (pad4_length hp)
      · exact txtN_le4 hp
    rw [List.foldl_cons]
    refine Nat.le_trans h1 ?_
    simp only [List.length_cons, List.length_append]
    omega
theorem bytesUp_bk {n : Nat} (k : Nat) (h0 : 0 < k) (hk : k ≤ (dig 10000 n).length) : bytesUp (dig 10000 n).length (bkUp (dig 10000 n) k) = txtN (n / 10000 ^ ((dig 10000 n).length - k)) := by
  obtain ⟨L, hL⟩ : ∃ L, (dig 10000 n).length = L := ⟨_, rfl⟩
  have hhi : n < 10000 ^ L := (dig_length_le (by omega) n L).1 (by omega)
  have hlo : 10000 ^ (L - 1) ≤ n := by
    rcases Nat.lt_or_ge n (10000 ^ (L - 1)) with h | h
    · have := (dig_length_le (B := 10000) (by omega) n (L - 1)).2 h
      omega
    · exact h
  induction k with
  | zero => omega
  | succ k ih =>
    rw [bkUp_succ, bytesUp_snoc]
    simp only [dig_getD (B := 10000) (by omega)]
    rw [hL] at hk ⊢
    rcases Nat.eq_zero_or_pos k with h | h
    · subst h
      have h1 : n / 10000 ^ (L - 1) < 10000 := by
        rw [Nat.div_lt_iff_lt_mul (Nat.pow_pos (by omega))]
        have : 10000 ^ L = 10000 * 10000 ^ (L - 1) := by rw [← Nat.pow_succ', Nat.succ_eq_add_one, Nat.sub_add_cancel (by omega)]
        omega
      rw [if_neg (by omega), show L - 1 - 0 = L - 1 from rfl, Nat.mod_eq_of_lt h1]
      simp [bkUp, bytesUp]
    · rw [hL] at ih
      rw [ih h (by omega), if_pos (by omega)]
      have e1 : L - (k + 1) = L - 1 - k := by omega
      have e2 : n / 10000 ^ (L - k) = n / 10000 ^ (L - 1 - k) / 10000 := by
        rw [Nat.div_div_eq_div_mul, ← Nat.pow_succ]
        congr 2
        omega
      rw [e1, e2, ← txtN_step]
      rw [Nat.le_div_iff_mul_le (Nat.pow_pos (by omega)), ← Nat.pow_succ']
      exact Nat.le_trans (Nat.pow_le_pow_right (by omega) (by omega)) hlo
theorem bytesUp_all {n : Nat} (hn : 0 < n) : bytesUp (dig 10000 n).length (bkUp (dig 10000 n) (dig 10000 n).length) = txtN n := by
  have h : 0 < (dig 10000 n).length := by rw [dig_pos (by omega) hn]; simp
  rw [bytesUp_bk _ h (Nat.le_refl _)]
  simp
end Go.Proofs.YtgngepbemgbbeaaGreatDoor

