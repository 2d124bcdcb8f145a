/-
  Plain facts on numbers as lists of digits, the lowest one first, to a base of at least 2. No code of the program is named here.
-/
namespace Go.Proofs.YtiefodlhnpondaaGreatDoor

/-- The number that digits stand for. -/
def val (B : Nat) : List Nat → Nat
  | [] => 0
  | d :: ds => d + B * val B ds

def digF (B : Nat) : Nat → Nat → List Nat
  | 0, _ => []
  | f + 1, n => if n = 0 then [] else n % B :: digF B f (n / B)
/-- The digits of a number; 0 has none. -/
def dig (B n : Nat) : List Nat := digF B n n

theorem div_lt_of {B n : Nat} (hB : 2 ≤ B) (hn : 0 < n) : n / B < n := Nat.div_lt_self hn hB

theorem digF_fuel {B : Nat} (hB : 2 ≤ B) : ∀ (f g n : Nat), n ≤ f → n ≤ g → digF B f n = digF B g n := by
  intro f
  induction f with
  | zero => intro g n hf hg; obtain rfl : n = 0 := by omega
            cases g <;> simp [digF]
  | succ f ih =>
    intro g n hf hg
    cases g with
    | zero => obtain rfl : n = 0 := by omega
              simp [digF]
    | succ g =>
      by_cases h : n = 0
      · simp [digF, h]
      · have := div_lt_of hB (Nat.pos_of_ne_zero h)
        simp only [digF, if_neg h]
        rw [ih g (n / B) (by omega) (by omega)]
theorem dig_zero (B : Nat) : dig B 0 = [] := rfl
theorem dig_pos {B n : Nat} (hB : 2 ≤ B) (hn : 0 < n) : dig B n = n % B :: dig B (n / B) := by
  have := div_lt_of hB hn
  unfold dig
  obtain ⟨m, rfl⟩ : ∃ m, n = m + 1 := ⟨n - 1, by omega⟩
  rw [digF, if_neg (by omega)]
  rw [digF_fuel hB m ((m + 1) / B) ((m + 1) / B) (by omega) (by omega)]
theorem dig_induct {B : Nat} (hB : 2 ≤ B) {P : Nat → Prop} (h0 : P 0) (hs : ∀ n, 0 < n → P (n / B) → P n) (n : Nat) : P n := by
  induction n using Nat.strongRecOn with
  | _ n ih =>
    by_cases h : n = 0
    · rw [h]; exact h0
    · exact hs n (by omega) (ih _ (div_lt_of hB (by omega)))
theorem val_dig {B : Nat} (hB : 2 ≤ B) (n : Nat) : val B (dig B n) = n := by
  induction n using dig_induct hB with
  | h0 => rfl
  | hs n hn ih => rw [dig_pos hB hn, val, ih]; exact Nat.mod_add_div n B
theorem dig_lt {B : Nat} (hB : 2 ≤ B) (n : Nat) : ∀ d ∈ dig B n, d < B := by
  induction n using dig_induct hB with
  | h0 => intro d hd; simp [dig_zero] at hd
  | hs n hn ih =>
    intro d hd
    rw [dig_pos hB hn] at hd
    rcases List.mem_cons.1 hd with rfl | h
    · exact Nat.mod_lt _ (by omega)
    · exact ih d h
theorem dig_nil {B n : Nat} (hB : 2 ≤ B) : dig B n = [] ↔ n = 0 := by
  constructor
  · intro h
    by_cases hn : n = 0
    · exact hn
    · rw [dig_pos hB (by omega)] at h; cases h
  · rintro rfl; rfl
theorem val_append (B : Nat) (a b : List Nat) : val B (a ++ b) = val B a + B ^ a.length * val B b := by
  induction a with
  | nil => simp [val]
  | cons d ds ih => simp only [List.cons_append, val, ih, List.length_cons, Nat.pow_succ, Nat.mul_add]; rw [Nat.mul_comm (B ^ ds.length) B, Nat.mul_assoc]; omega
theorem val_lt {B : Nat} (_hB : 2 ≤ B) : ∀ (l : List Nat), (∀ d ∈ l, d < B) → val B l < B ^ l.length := by
  intro l
  induction l with
  | nil => intro _; simp [val]
  | cons d ds ih =>
    intro h
    have h1 := ih (fun x hx => h x (List.mem_cons_of_mem _ hx))
    have h2 := h d (List.mem_cons_self)
    simp only [val, List.length_cons, Nat.pow_succ]
    have : B * (val B ds + 1) ≤ B * B ^ ds.length := Nat.mul_le_mul_left B h1
    rw [Nat.mul_comm (B ^ ds.length) B]
    rw [Nat.mul_add] at this
    omega
theorem dig_of_lt {B d : Nat} (hB : 2 ≤ B) (hd : 0 < d) (h : d < B) : dig B d = [d] := by
  rw [dig_pos hB hd, Nat.mod_eq_of_lt h, Nat.div_eq_of_lt h, dig_zero]
theorem dig_cons {B d n : Nat} (hB : 2 ≤ B) (h : d < B) (hp : 0 < d + B * n) : dig B (d + B * n) = d :: dig B n := by
  rw [dig_pos hB hp, Nat.add_mul_mod_self_left, Nat.mod_eq_of_lt h, Nat.add_mul_div_left _ _ (by omega), Nat.div_eq_of_lt h, Nat.zero_add]

/-- Digits without zeros at the end. -/
def trim : List Nat → List Nat
  | [] => []
  | d :: ds => if d = 0 ∧ trim ds = [] then [] else d :: trim ds
theorem trim_dig {B : Nat} (hB : 2 ≤ B) : ∀ (l : List Nat), (∀ d ∈ l, d < B) → trim l = dig B (val B l) := by
  intro l
  induction l with
  | nil => intro _; rfl
  | cons d ds ih =>
    intro h
    have e := ih (fun x hx => h x (List.mem_cons_of_mem _ hx))
    have hd := h d (List.mem_cons_self)
    simp only [trim, val, e, dig_nil hB]
    by_cases hz : d = 0 ∧ val B ds = 0
    · rw [if_pos hz, hz.1, hz.2]; rfl
    · rw [if_neg hz, dig_cons hB hd]
      by_cases h0 : d = 0
      · have h1 : val B ds ≠ 0 := fun h => hz ⟨h0, h⟩
        have := Nat.mul_pos (show 0 < B by omega) (Nat.pos_of_ne_zero h1)
        omega
      · omega
theorem trim_snoc_zero : ∀ (l : List Nat), trim (l ++ [0]) = trim l := by
  intro l
  induction l with
  | nil => rfl
  | cons d ds ih => simp only [List.cons_append, trim, ih]
theorem trim_snoc_ne {d : Nat} (hd : d ≠ 0) : ∀ (l : List Nat), trim (l ++ [d]) = l ++ [d] := by
  intro l
  induction l with
  | nil => simp [trim, hd]
  | cons x ds ih => simp only [List.cons_append, trim, ih]; rw [if_neg (by simp)]
theorem trim_of_last {l : List Nat} (h : ∀ d, l.getLast? = some d → d ≠ 0) : trim l = l := by
  rcases List.eq_nil_or_concat l with rfl | ⟨ini, d, rfl⟩
  · rfl
  · simp only [List.concat_eq_append]
    exact trim_snoc_ne (h d (by simp)) ini
/-- The loop that leaves out zeros at the end: behind place k there are zeros alone. -/
theorem trim_take_zero {l : List Nat} {k : Nat} (h : l[k]?.getD 0 = 0) (hk : k < l.length) : trim (l.take (k + 1)) = trim (l.take k) := by
  rw [List.take_succ_eq_append_getElem hk]
  have : l[k] = 0 := by simpa [hk] using h
  rw [this, trim_snoc_zero]
theorem trim_take_ne {l : List Nat} {k : Nat} (h : l[k]?.getD 0 ≠ 0) (hk : k < l.length) : trim (l.take (k + 1)) = l.take (k + 1) := by
  rw [List.take_succ_eq_append_getElem hk]
  exact trim_snoc_ne (by simpa [hk] using h) _
theorem dig_length_le {B : Nat} (hB : 2 ≤ B) (n k : Nat) : (dig B n).length ≤ k ↔ n < B ^ k := by
  constructor
  · intro h
    have h1 := val_lt hB (dig B n) (dig_lt hB n)
    rw [val_dig hB] at h1
    exact Nat.lt_of_lt_of_le h1 (Nat.pow_le_pow_right (by omega) h)
  · intro h
    induction n using dig_induct hB generalizing k with
    | h0 => simp [dig_zero]
    | hs n hn ih =>
      rw [dig_pos hB hn]
      cases k with
      | zero => simp at h; omega
      | succ k =>
        have : n / B < B ^ k := by
          rw [Nat.div_lt_iff_lt_mul (by omega)]
          rw [Nat.pow_succ] at h
          exact h
        have := ih k this
        simp only [List.length_cons]
        omega
theorem dig_length_mono {B n m : Nat} (hB : 2 ≤ B) (h : m ≤ n) : (dig B m).length ≤ (dig B n).length := by
  rw [dig_length_le hB]
  exact Nat.lt_of_le_of_lt h ((dig_length_le hB n _).1 (Nat.le_refl _))
theorem dig_last {B : Nat} (hB : 2 ≤ B) (n : Nat) : trim (dig B n) = dig B n := by
  rw [trim_dig hB _ (dig_lt hB n), val_dig hB]
theorem dig_inj {B n m : Nat} (hB : 2 ≤ B) (h : dig B n = dig B m) : n = m := by rw [← val_dig hB n, ← val_dig hB m, h]
theorem val_take_succ (B : Nat) (l : List Nat) (k : Nat) (hk : k < l.length) : val B (l.take (k + 1)) = val B (l.take k) + B ^ k * (l[k]?.getD 0) := by
  rw [List.take_succ_eq_append_getElem hk, val_append]
  simp [val, hk, Nat.min_eq_left (Nat.le_of_lt hk)]
end Go.Proofs.YtiefodlhnpondaaGreatDoor
