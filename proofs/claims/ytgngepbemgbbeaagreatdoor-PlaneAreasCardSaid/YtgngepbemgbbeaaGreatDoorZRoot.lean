/-
  integer.Root: Newton's steps from a power of ten that is too great.
-/
import Derived.Test.YtgngepbemgbbeaaGreatDoorZOut
namespace Go.Proofs.YtgngepbemgbbeaaGreatDoor
open Go.RowKit Go.Shelf
attribute [local go_sem] Oper.semAt_some

/-- A step of Newton's: what comes next is not less than the root; and where it is not less than what was, that is the root. -/
theorem newton {X r : Nat} (hr : 0 < r) : X < ((r + X / r) / 2 + 1) * ((r + X / r) / 2 + 1) := by
  have h1 := Nat.div_add_mod X r
  have h2 := Nat.mod_lt X hr
  generalize X / r = q at *
  have h3 : X < r * (q + 1) := by rw [Nat.mul_add, Nat.mul_one]; omega
  generalize hn : (r + q) / 2 + 1 = n
  have h4 : r + q + 1 ≤ 2 * n := by omega
  have h5 : (r + (q + 1)) * (r + (q + 1)) ≤ (2 * n) * (2 * n) := Nat.mul_le_mul (by omega) (by omega)
  have h6 : 4 * (r * (q + 1)) ≤ (r + (q + 1)) * (r + (q + 1)) := by
    generalize q + 1 = s
    rcases Nat.le_total r s with h | h
    · obtain ⟨d, rfl⟩ := Nat.le.dest h
      have : (r + (r + d)) * (r + (r + d)) = 4 * (r * (r + d)) + d * d := by
        simp only [Nat.mul_add, Nat.add_mul, Nat.mul_comm d r]; omega
      omega
    · obtain ⟨d, rfl⟩ := Nat.le.dest h
      have : (s + d + s) * (s + d + s) = 4 * ((s + d) * s) + d * d := by
        simp only [Nat.mul_add, Nat.add_mul, Nat.mul_comm d s]; omega
      omega
  have h7 : (2 * n) * (2 * n) = 4 * (n * n) := by
    rw [Nat.mul_assoc, Nat.mul_left_comm n 2 n, ← Nat.mul_assoc]
  omega
theorem newton_stop {X r : Nat} (_hr : 0 < r) (h : r ≤ (r + X / r) / 2) : r * r ≤ X := by
  have h1 : r ≤ X / r := by omega
  calc r * r ≤ r * (X / r) := Nat.mul_le_mul (Nat.le_refl _) h1
    _ ≤ X := Nat.mul_div_le X r
theorem root_start {X : Nat} (k : Nat) (hk : (dig 10000 X).length ≤ 2 * k) : X < (10000 ^ k + 1) * (10000 ^ k + 1) := by
  have h1 := (dig_length_le (B := 10000) (by omega) X _).1 hk
  rw [Nat.two_mul, Nat.pow_add] at h1
  refine Nat.lt_of_lt_of_le h1 (Nat.mul_le_mul (by omega) (by omega))
theorem half_int (L : Nat) : ∃ k : Nat, ((L : Int) + 1) / 2 = (k : Int) ∧ L ≤ 2 * k ∧ k ≤ L := by
  rcases Nat.eq_zero_or_pos L with h | h
  · exact ⟨0, by omega, by omega, by omega⟩
  · exact ⟨(L + 1) / 2, by omega, by omega, by omega⟩
theorem dig_pow (k : Nat) : dig 10000 (10000 ^ k) = List.replicate k 0 ++ [1] := by
  induction k with
  | zero => decide
  | succ k ih =>
    have hp : 0 < 10000 ^ k := Nat.pow_pos (by omega)
    have := dig_cons (B := 10000) (d := 0) (n := 10000 ^ k) (by omega) (by omega) (by omega)
    rw [Nat.zero_add, Nat.mul_comm, ← Nat.pow_succ] at this
    rw [this, ih]; rfl

theorem own_zeros {k N B : Nat} {w : World} (o : Obj) (hN : w.heap.size = N) (hk : k ≤ 1000000) (hB : B ≤ w.heap.size) :
    ((w.alloc (.cells (zeros k) 3)).alloc o).ownsRow B 3 1 (.slice (some ⟨N, 0, none⟩) k k) k ((List.replicate k 0).map fun n : Nat => Value.int .i64 (n : Int)) := by
  rw [← zeros_list, ← hN]
  exact (World.ownsRow_lit (base := B) (e := 3) (size := 1) w (zeros k) k hB (by unfold maxLen; omega) (by simp [zeros_size])).alloc o
theorem one_cell_at {W : World} {N : Nat} {v : Value} {t : TypeId} (hN : W.heap.size = N) : ∀ j u, [v][j]? = some u → (W.alloc (.cells #[v] t)).cell? ((⟨N, 0, none⟩ : Addr).add j) = some u := by
  intro j u hu
  cases j with
  | zero => simp at hu; subst hu hN; rw [addr_add]; simp [go_sem]
  | succ j => simp at hu
theorem root_pair {w1 w2 : World} {n1 n2 : Bool} {s1 s2 : Value} (h : Below (w1.heap.size + 1 + 1) ((w1.alloc (.cells #[.bool n1, s1] 123)).alloc (.cells #[.bool n2, s2] 123)) w2) : PairAt w1.heap.size n1 s1 n2 s2 w2 ∧ Below w1.heap.size w1 w2 :=
  ⟨(PairAt.start w1 n1 n2 s1 s2).below (by simpa using h), (B2 w1 _ _).trans (h.mono (by omega))⟩
theorem nm_pow {W : World} {B k : Nat} {v : Value} (h : W.ownsRow B 3 1 v (k + 1) ((List.replicate k 0).map (fun n : Nat => Value.int .i64 (n : Int)) ++ [Value.int .i64 1])) : Nm W v (10000 ^ k) B W.heap.size := by
  show Ns W v (dig 10000 (10000 ^ k)) _ _
  rw [dig_pow]
  have h1 := Sl.of_owns h
  have h2 : (List.replicate k 0 ++ [1]).length = k + 1 := by simp
  show Sl W v (List.replicate k 0 ++ [1]).length 1 _ _ _
  rw [h2, List.map_append]
  exact h1

theorem nm_two {W : World} {N : Nat} (hN : W.heap.size = N) (t : TypeId) : Nm (W.alloc (.cells #[.int .i64 2] t)) (.slice (some ⟨N, 0, none⟩) 1 1) 2 N (N + 1) := by
  have h1 : dig 10000 2 = [2] := by decide
  show Ns _ _ (dig 10000 2) _ _
  rw [h1]
  refine ⟨_, 1, rfl, by decide, by decide, by decide, fun h => by simp at h, fun ad ha => ?_⟩
  simp only [Option.some.injEq] at ha
  subst ha hN
  refine ⟨_, 0, rfl, Nat.le_refl _, by simp, ?_⟩
  intro i u hu
  cases i with
  | zero => simp at hu; subst hu; simp [go_sem]
  | succ i => simp at hu
theorem root_small {x : Int} {m R : Nat} (hx : small x = true) (hm : m = x.natAbs) (h : R * R ≤ m) : small (R : Int) = true := by
  refine small_le hx ?_
  rw [← hm]
  refine Nat.le_trans ?_ h
  rcases Nat.eq_zero_or_pos R with h0 | h0
  · subst h0; simp
  · exact Nat.le_mul_of_pos_left _ h0
theorem cmpI_nonneg (a b : Nat) : 0 ≤ cmpI a b ↔ b ≤ a := by
  unfold cmpI
  rcases Nat.lt_trichotomy a b with h | h | h
  · rw [if_pos (by omega)]; omega
  · rw [if_neg (by omega), if_neg (by omega)]; omega
  · rw [if_neg (by omega), if_pos (by omega)]; omega
theorem Below.al {w : World} (o : Obj) : Below w.heap.size w (w.alloc o) := (Below.refl _ _).alloc (Nat.le_refl _) _

end Go.Proofs.YtgngepbemgbbeaaGreatDoor

