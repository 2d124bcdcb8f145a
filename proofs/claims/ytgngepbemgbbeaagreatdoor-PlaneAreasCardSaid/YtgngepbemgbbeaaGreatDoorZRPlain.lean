/-
  Plain facts on lists of digits for the reference implementation: sums, differences and products digit by digit. No code of the program is named here.
-/
import Derived.Test.YtgngepbemgbbeaaGreatDoorZNum
namespace Go.Proofs.YtgngepbemgbbeaaGreatDoor

theorem val_take_any (B : Nat) (l : List Nat) (k : Nat) : val B (l.take (k + 1)) = val B (l.take k) + B ^ k * (l[k]?.getD 0) := by
  by_cases h : k < l.length
  · exact val_take_succ B l k h
  · rw [List.take_of_length_le (by omega), List.take_of_length_le (by omega), List.getElem?_eq_none (by omega)]
    simp
theorem val_snoc (B : Nat) (l : List Nat) (d : Nat) : val B (l ++ [d]) = val B l + B ^ l.length * d := by
  rw [val_append]
  simp [val]
theorem getD_dig_lt {B : Nat} (hB : 2 ≤ B) (n k : Nat) : (dig B n)[k]?.getD 0 < B := by
  cases e : (dig B n)[k]? with
  | none => simp; omega
  | some d => exact dig_lt hB n d (List.mem_of_getElem? e)
theorem dig_ge {B n : Nat} (hB : 2 ≤ B) (h : 0 < (dig B n).length) : B ^ ((dig B n).length - 1) ≤ n := by
  rcases Nat.lt_or_ge n (B ^ ((dig B n).length - 1)) with h1 | h1
  · have := (dig_length_le hB n _).2 h1
    omega
  · exact h1
/-- Digits that are as few as can be are the digits. -/
theorem dig_of_val {B N : Nat} (hB : 2 ≤ B) {ds : List Nat} (hd : ∀ d ∈ ds, d < B) (hv : val B ds = N) (hl : ds = [] ∨ B ^ (ds.length - 1) ≤ N) : ds = dig B N := by
  rw [← hv, ← trim_dig hB ds hd]
  rcases List.eq_nil_or_concat ds with rfl | ⟨ini, d, rfl⟩
  · rfl
  · simp only [List.concat_eq_append] at hd hv hl ⊢
    rw [trim_snoc_ne]
    rintro rfl
    rcases hl with hl | hl
    · simp at hl
    · have h1 := val_lt hB ini (fun d hm => hd d (by simp [hm]))
      rw [val_snoc] at hv
      simp at hl
      omega

/-- The highest digit at which two numbers differ decides. -/
theorem ord_first {B n m i : Nat} (hB : 2 ≤ B) (hl : (dig B n).length = (dig B m).length) (hi : i < (dig B n).length) (ht : (dig B n).drop (i + 1) = (dig B m).drop (i + 1)) (hne : ¬ (dig B n)[i]?.getD 0 = (dig B m)[i]?.getD 0) :
    cmpI ((dig B n)[i]?.getD 0 : Nat) ((dig B m)[i]?.getD 0 : Nat) = cmpI n m := by
  have him : i < (dig B m).length := by omega
  simp only [List.getElem?_eq_getElem hi, List.getElem?_eq_getElem him, Option.getD_some] at hne ⊢
  have en : dig B n = (dig B n).take i ++ (dig B n)[i] :: (dig B n).drop (i + 1) := by rw [List.getElem_cons_drop, List.take_append_drop]
  have em : dig B m = (dig B m).take i ++ (dig B m)[i] :: (dig B n).drop (i + 1) := by rw [ht, List.getElem_cons_drop, List.take_append_drop]
  have vn := val_dig hB n
  have vm := val_dig hB m
  have hlen : ((dig B n).take i).length = ((dig B m).take i).length := by simp; omega
  have dn : ∀ d ∈ (dig B n).take i, d < B := fun d hd => dig_lt hB n d (List.mem_of_mem_take hd)
  have dm : ∀ d ∈ (dig B m).take i, d < B := fun d hd => dig_lt hB m d (List.mem_of_mem_take hd)
  rcases Nat.lt_or_gt_of_ne hne with h5 | h5
  · have h6 := val_cmp hB _ _ _ _ hlen dn dm h5 ((dig B n).drop (i + 1))
    rw [← en, ← em, vn, vm] at h6
    unfold cmpI
    rw [if_pos (by omega), if_pos (by omega)]
  · have h6 := val_cmp hB _ _ _ _ hlen.symm dm dn h5 ((dig B n).drop (i + 1))
    rw [← en, ← em, vn, vm] at h6
    unfold cmpI
    rw [if_neg (by omega), if_pos (by omega), if_neg (by omega), if_pos (by omega)]
theorem drop_step {a b : List Nat} {i : Nat} (hl : a.length = b.length) (hi : i < a.length) (ht : a.drop (i + 1) = b.drop (i + 1)) (he : a[i]?.getD 0 = b[i]?.getD 0) : a.drop i = b.drop i := by
  rw [List.drop_eq_getElem_cons hi, List.drop_eq_getElem_cons (show i < b.length from by omega), ht]
  simp only [List.getElem?_eq_getElem hi, List.getElem?_eq_getElem (show i < b.length from by omega), Option.getD_some] at he
  rw [he]

/-- What plus knows before round k. -/
structure PlusAt (n m k : Nat) (ds : List Nat) (c : Nat) : Prop where
  len : ds.length = k
  dlt : ∀ d ∈ ds, d < 10
  eq : val 10 ds + 10 ^ k * c = val 10 ((dig 10 n).take k) + val 10 ((dig 10 m).take k)
  chi : c ≤ 1
  far : (k ≤ (dig 10 n).length ∨ k ≤ (dig 10 m).length) ∨ c = 0 ∧ 0 < k ∧ 10 ^ (k - 1) ≤ n + m
theorem PlusAt.start (n m : Nat) : PlusAt n m 0 [] 0 := ⟨rfl, by simp, by simp [val], by omega, .inl (.inl (by omega))⟩
theorem PlusAt.all {n m k : Nat} {ds : List Nat} {c : Nat} (h : PlusAt n m k ds c) (h1 : (dig 10 n).length ≤ k) (h2 : (dig 10 m).length ≤ k) : val 10 ds + 10 ^ k * c = n + m := by
  have := h.eq
  rwa [List.take_of_length_le h1, List.take_of_length_le h2, val_dig (by omega), val_dig (by omega)] at this
theorem PlusAt.step {n m k : Nat} {ds : List Nat} {c : Nat} (h : PlusAt n m k ds c) (hgo : k < (dig 10 n).length ∨ k < (dig 10 m).length ∨ 0 < c) (s : Nat) (hs : s = c + (dig 10 n)[k]?.getD 0 + (dig 10 m)[k]?.getD 0) :
    PlusAt n m (k + 1) (ds ++ [s % 10]) (s / 10) := by
  have g1 := getD_dig_lt (B := 10) (by omega) n k
  have g2 := getD_dig_lt (B := 10) (by omega) m k
  have hc := h.chi
  refine ⟨by simp [h.len], ?_, ?_, by omega, ?_⟩
  · intro d hd
    rcases List.mem_append.1 hd with hd | hd
    · exact h.dlt d hd
    · simp at hd; omega
  · rw [val_snoc, h.len, val_take_any, val_take_any]
    have e := h.eq
    have e2 : 10 ^ (k + 1) * (s / 10) = 10 ^ k * (10 * (s / 10)) := by rw [Nat.pow_succ, Nat.mul_assoc]
    have e3 : 10 ^ k * (s % 10) + 10 ^ k * (10 * (s / 10)) = 10 ^ k * c + 10 ^ k * ((dig 10 n)[k]?.getD 0) + 10 ^ k * ((dig 10 m)[k]?.getD 0) := by
      rw [← Nat.mul_add, ← Nat.mul_add, ← Nat.mul_add]
      congr 1
      omega
    omega
  · by_cases h1 : k < (dig 10 n).length ∨ k < (dig 10 m).length
    · left; omega
    · right
      have hc0 : 0 < c := by omega
      have hz1 : (dig 10 n)[k]?.getD 0 = 0 := by rw [List.getElem?_eq_none (by omega)]; rfl
      have hz2 : (dig 10 m)[k]?.getD 0 = 0 := by rw [List.getElem?_eq_none (by omega)]; rfl
      have hall := h.all (by omega) (by omega)
      have : 10 ^ k * 1 ≤ 10 ^ k * c := Nat.mul_le_mul_left _ hc0
      refine ⟨by omega, by omega, ?_⟩
      rw [Nat.add_sub_cancel]
      omega
theorem PlusAt.done {n m k : Nat} {ds : List Nat} (h : PlusAt n m k ds 0) (h1 : (dig 10 n).length ≤ k) (h2 : (dig 10 m).length ≤ k) : ds = dig 10 (n + m) := by
  have hall := h.all h1 h2
  refine dig_of_val (by omega) h.dlt (by omega) ?_
  rw [h.len]
  rcases Nat.eq_zero_or_pos k with hk | hk
  · left; exact List.eq_nil_of_length_eq_zero (by rw [h.len, hk])
  · right
    rcases h.far with (hf | hf) | ⟨_, _, hf⟩
    · have e : k = (dig 10 n).length := by omega
      have := dig_ge (B := 10) (n := n) (by omega) (by omega)
      rw [← e] at this
      omega
    · have e : k = (dig 10 m).length := by omega
      have := dig_ge (B := 10) (n := m) (by omega) (by omega)
      rw [← e] at this
      omega
    · exact hf

/-- What minus knows before round k. -/
structure MinusAt (n m k : Nat) (ds : List Nat) (c : Nat) : Prop where
  len : ds.length = k
  dlt : ∀ d ∈ ds, d < 10
  eq : val 10 ds + val 10 ((dig 10 m).take k) = val 10 ((dig 10 n).take k) + 10 ^ k * c
  chi : c ≤ 1
theorem MinusAt.start (n m : Nat) : MinusAt n m 0 [] 0 := ⟨rfl, by simp, by simp [val], by omega⟩
theorem MinusAt.step {n m k : Nat} {ds : List Nat} {c : Nat} (h : MinusAt n m k ds c) (d c' : Nat) (hd : d < 10) (hc' : c' ≤ 1) (hs : d + (dig 10 m)[k]?.getD 0 + c = (dig 10 n)[k]?.getD 0 + 10 * c') :
    MinusAt n m (k + 1) (ds ++ [d]) c' := by
  refine ⟨by simp [h.len], ?_, ?_, hc'⟩
  · intro x hx
    rcases List.mem_append.1 hx with hx | hx
    · exact h.dlt x hx
    · simp at hx; omega
  · rw [val_snoc, h.len, val_take_any, val_take_any]
    have e := h.eq
    have e2 : 10 ^ (k + 1) * c' = 10 ^ k * (10 * c') := by rw [Nat.pow_succ, Nat.mul_assoc]
    have e3 : 10 ^ k * d + 10 ^ k * ((dig 10 m)[k]?.getD 0) + 10 ^ k * c = 10 ^ k * ((dig 10 n)[k]?.getD 0) + 10 ^ k * (10 * c') := by
      rw [← Nat.mul_add, ← Nat.mul_add, ← Nat.mul_add, hs]
    omega
theorem MinusAt.done {n m : Nat} {ds : List Nat} {c : Nat} (h : MinusAt n m (dig 10 n).length ds c) (hle : m ≤ n) : trim ds = dig 10 (n - m) := by
  have e := h.eq
  have hl : (dig 10 m).length ≤ (dig 10 n).length := dig_length_mono (by omega) hle
  rw [List.take_of_length_le (Nat.le_refl _), List.take_of_length_le hl, val_dig (by omega), val_dig (by omega)] at e
  have h1 := val_lt (B := 10) (by omega) ds h.dlt
  rw [h.len] at h1
  have hc : c = 0 := by
    rcases Nat.eq_zero_or_pos c with h0 | h0
    · exact h0
    · have : c = 1 := by have := h.chi; omega
      subst this
      omega
  subst hc
  rw [trim_dig (by omega) ds h.dlt]
  congr 1
  omega

theorem val_set (B : Nat) : ∀ (l : List Nat) (j x : Nat), j < l.length → val B (l.set j x) + B ^ j * (l[j]?.getD 0) = val B l + B ^ j * x
  | [], j, x, h => by simp at h
  | d :: ds, 0, x, _ => by simp [val]; omega
  | d :: ds, j + 1, x, h => by
    have ih := val_set B ds j x (by simpa using h)
    simp only [List.set_cons_succ, val, List.getElem?_cons_succ, Nat.pow_succ]
    have e := congrArg (B * ·) ih
    simp only [Nat.mul_add] at e
    rw [Nat.mul_comm (B ^ j) B, Nat.mul_assoc, Nat.mul_assoc]
    omega
theorem mem_set_lt {B : Nat} {l : List Nat} {j x : Nat} (h : ∀ d ∈ l, d < B) (hx : x < B) : ∀ d ∈ l.set j x, d < B := by
  intro d hd
  rcases List.mem_or_eq_of_mem_set hd with hd | rfl
  · exact h d hd
  · exact hx

/-- What times knows before round k of round i: the row's digits, and the carry. -/
structure TimesAt (n m i k : Nat) (os : List Nat) (c : Nat) : Prop where
  len : os.length = (dig 10 n).length + (dig 10 m).length
  dlt : ∀ d ∈ os, d < 10
  eq : val 10 os + 10 ^ (i + k) * c = val 10 ((dig 10 n).take i) * m + 10 ^ i * ((dig 10 n)[i]?.getD 0 * val 10 ((dig 10 m).take k))
  chi : c ≤ 9
  far : k ≤ (dig 10 m).length ∧ (∀ j, i + (dig 10 m).length ≤ j → os[j]?.getD 0 = 0) ∨ k = (dig 10 m).length + 1 ∧ c = 0 ∧ (∀ j, i + 1 + (dig 10 m).length ≤ j → os[j]?.getD 0 = 0)
theorem TimesAt.step {n m i k : Nat} {os : List Nat} {c : Nat} (h : TimesAt n m i k os c) (hi : i < (dig 10 n).length) (hgo : k < (dig 10 m).length ∨ 0 < c) (s : Nat)
    (hs : s = os[i + k]?.getD 0 + c + (dig 10 n)[i]?.getD 0 * (dig 10 m)[k]?.getD 0) : i + k < os.length ∧ TimesAt n m i (k + 1) (os.set (i + k) (s % 10)) (s / 10) := by
  have g1 := getD_dig_lt (B := 10) (by omega) n i
  have g2 := getD_dig_lt (B := 10) (by omega) m k
  have hl := h.len
  have hc := h.chi
  have g3 : os[i + k]?.getD 0 < 10 := by
    cases e : os[i + k]? with
    | none => simp
    | some d => exact h.dlt d (List.mem_of_getElem? e)
  have hmul : (dig 10 n)[i]?.getD 0 * (dig 10 m)[k]?.getD 0 ≤ 9 * 9 := Nat.mul_le_mul (by omega) (by omega)
  have hk : k ≤ (dig 10 m).length := by
    rcases h.far with h1 | ⟨h1, h2, _⟩ <;> omega
  have hlt : i + k < os.length := by omega
  refine ⟨hlt, by simpa using hl, mem_set_lt h.dlt (by omega), ?_, by omega, ?_⟩
  · have e1 := val_set 10 os (i + k) (s % 10) hlt
    have e2 := h.eq
    have e3 : 10 ^ (i + (k + 1)) * (s / 10) = 10 ^ (i + k) * (10 * (s / 10)) := by rw [← Nat.add_assoc, Nat.pow_succ, Nat.mul_assoc]
    rw [val_take_any, e3, Nat.mul_add, Nat.mul_add]
    have e4 : 10 ^ i * ((dig 10 n)[i]?.getD 0 * (10 ^ k * (dig 10 m)[k]?.getD 0)) = 10 ^ (i + k) * ((dig 10 n)[i]?.getD 0 * (dig 10 m)[k]?.getD 0) := by
      rw [Nat.pow_add, Nat.mul_left_comm ((dig 10 n)[i]?.getD 0) (10 ^ k), ← Nat.mul_assoc]
    rw [e4]
    have e5 : 10 ^ (i + k) * (s % 10) + 10 ^ (i + k) * (10 * (s / 10)) = 10 ^ (i + k) * os[i + k]?.getD 0 + 10 ^ (i + k) * c + 10 ^ (i + k) * ((dig 10 n)[i]?.getD 0 * (dig 10 m)[k]?.getD 0) := by
      rw [← Nat.mul_add, ← Nat.mul_add, ← Nat.mul_add]
      congr 1
      omega
    omega
  · have hset : ∀ j, i + k < j → (os.set (i + k) (s % 10))[j]?.getD 0 = os[j]?.getD 0 := by
      intro j hj
      rw [List.getElem?_set_ne (by omega)]
    rcases h.far with ⟨h1, h2⟩ | ⟨h1, h2, h3⟩
    · by_cases hk2 : k < (dig 10 m).length
      · left
        exact ⟨by omega, fun j hj => by rw [hset j (by omega)]; exact h2 j hj⟩
      · right
        have hz1 : (dig 10 m)[k]?.getD 0 = 0 := by rw [List.getElem?_eq_none (by omega)]; rfl
        have hz2 := h2 (i + k) (by omega)
        rw [hz1, hz2, Nat.mul_zero] at hs
        exact ⟨by omega, by omega, fun j hj => by rw [hset j (by omega)]; exact h2 j (by omega)⟩
    · omega
theorem TimesAt.start (n m : Nat) : TimesAt n m 0 0 (List.replicate ((dig 10 n).length + (dig 10 m).length) 0) 0 := by
  have hz : ∀ k, val 10 (List.replicate k 0) = 0 := by
    intro k
    induction k with
    | zero => rfl
    | succ k ih => simp [List.replicate_succ, val, ih]
  refine ⟨by simp, ?_, by simp [hz, val], by omega, .inl ⟨by omega, ?_⟩⟩
  · intro d hd
    rw [List.eq_of_mem_replicate hd]
    omega
  · intro j _
    rw [List.getElem?_replicate]
    split <;> rfl
theorem TimesAt.next {n m i k : Nat} {os : List Nat} (h : TimesAt n m i k os 0) (hk : (dig 10 m).length ≤ k) : TimesAt n m (i + 1) 0 os 0 := by
  refine ⟨h.len, h.dlt, ?_, by omega, .inl ⟨by omega, ?_⟩⟩
  · have e := h.eq
    rw [List.take_of_length_le hk, val_dig (by omega)] at e
    rw [val_take_any, Nat.add_mul]
    simp only [Nat.mul_zero, Nat.add_zero, List.take_zero, val] at e ⊢
    rw [Nat.mul_assoc]
    exact e
  · intro j hj
    rcases h.far with ⟨_, h2⟩ | ⟨_, _, h2⟩
    · exact h2 j (by omega)
    · exact h2 j (by omega)
theorem TimesAt.done {n m : Nat} {os : List Nat} (h : TimesAt n m (dig 10 n).length 0 os 0) : trim os = dig 10 (n * m) := by
  have e := h.eq
  rw [List.take_of_length_le (Nat.le_refl _), val_dig (by omega)] at e
  rw [trim_dig (by omega) os h.dlt]
  have e2 : val 10 os = n * m := by simpa only [Nat.mul_zero, Nat.add_zero, List.take_zero, val] using e
  rw [e2]

theorem dig_getD {B : Nat} (hB : 2 ≤ B) (i n : Nat) : (dig B n)[i]?.getD 0 = n / B ^ i % B := by
  induction i generalizing n with
  | zero =>
    rcases Nat.eq_zero_or_pos n with h | h
    · subst h; simp [dig_zero]
    · rw [dig_pos hB h]; simp
  | succ i ih =>
    rcases Nat.eq_zero_or_pos n with h | h
    · subst h; simp [dig_zero]
    · rw [dig_pos hB h, List.getElem?_cons_succ, ih, Nat.div_div_eq_div_mul, Nat.pow_succ, Nat.mul_comm B]
theorem val_zeros (B : Nat) (k : Nat) : val B (List.replicate k 0) = 0 := by
  induction k with
  | zero => rfl
  | succ k ih => simp [List.replicate_succ, val, ih]
theorem getD_zeros (k j : Nat) : (List.replicate k 0)[j]?.getD 0 = 0 := by
  rw [List.getElem?_replicate]
  split <;> rfl
theorem mem_zeros {k d : Nat} (h : d ∈ List.replicate k 0) : d < 10 := by
  rw [List.eq_of_mem_replicate h]
  omega
theorem div_split (n i : Nat) : n / 10 ^ i = 10 * (n / 10 ^ (i + 1)) + n / 10 ^ i % 10 := by
  rw [Nat.pow_succ, ← Nat.div_div_eq_div_mul]
  omega

/-- What divided knows behind the digits from j on: the quotient so far, and the remainder. -/
structure DivAt (n m j : Nat) (qs : List Nat) (R : Nat) : Prop where
  len : qs.length = (dig 10 n).length
  dlt : ∀ d ∈ qs, d < 10
  low : ∀ s, s < j → qs[s]?.getD 0 = 0
  eq : val 10 qs * m + 10 ^ j * R = 10 ^ j * (n / 10 ^ j)
  lt : R < m
/-- The same within a round. -/
structure DivIn (n m i t : Nat) (qs : List Nat) (R : Nat) : Prop where
  len : qs.length = (dig 10 n).length
  dlt : ∀ d ∈ qs, d < 10
  low : ∀ s, s < i → qs[s]?.getD 0 = 0
  cur : qs[i]?.getD 0 = t
  eq : val 10 qs * m + 10 ^ i * R = 10 ^ i * (n / 10 ^ i)
  lt : t * m + R < 10 * m
theorem DivAt.start {n m : Nat} (hm : 0 < m) : DivAt n m (dig 10 n).length (List.replicate (dig 10 n).length 0) 0 := by
  have h := (dig_length_le (B := 10) (by omega) n _).1 (Nat.le_refl _)
  refine ⟨by simp, fun d hd => mem_zeros hd, fun s _ => getD_zeros _ _, ?_, hm⟩
  rw [val_zeros, Nat.div_eq_of_lt h]
  simp
theorem DivAt.enter {n m i : Nat} {qs : List Nat} {R : Nat} (h : DivAt n m (i + 1) qs R) : DivIn n m i 0 qs ((dig 10 n)[i]?.getD 0 + 10 * R) := by
  have e := h.eq
  have hl := h.lt
  rw [dig_getD (by omega)]
  refine ⟨h.len, h.dlt, fun s hs => h.low s (by omega), h.low i (by omega), ?_, by omega⟩
  have e2 := congrArg (10 ^ i * ·) (div_split n i)
  generalize n / 10 ^ (i + 1) = X at e e2
  simp only [Nat.mul_add] at e2 ⊢
  rw [Nat.pow_succ, Nat.mul_assoc, Nat.mul_assoc] at e
  omega
theorem DivIn.small {n m i t : Nat} {qs : List Nat} {R : Nat} (h : DivIn n m i t qs R) : t < 10 := by
  have h1 := h.lt
  rcases Nat.lt_or_ge t 10 with h2 | h2
  · exact h2
  · have := Nat.mul_le_mul_right m h2
    omega
theorem DivIn.step {n m i t : Nat} {qs : List Nat} {R : Nat} (h : DivIn n m i t qs R) (hi : i < (dig 10 n).length) (hR : m ≤ R) : DivIn n m i (t + 1) (qs.set i (t + 1)) (R - m) := by
  have h1 := h.lt
  have e := h.eq
  have hl := h.len
  have h2 : t + 1 < 10 := by
    rcases Nat.lt_or_ge (t + 1) 10 with h2 | h2
    · exact h2
    · have := Nat.mul_le_mul_right m h2
      rw [Nat.add_mul, Nat.one_mul] at this
      omega
  refine ⟨by simpa using hl, mem_set_lt h.dlt h2, fun s hs => by rw [List.getElem?_set_ne (by omega)]; exact h.low s hs, by rw [List.getElem?_set_self (by omega)]; rfl, ?_, by rw [Nat.add_mul, Nat.one_mul]; omega⟩
  have e1 := val_set 10 qs i (t + 1) (by omega)
  rw [h.cur, Nat.mul_add, Nat.mul_one] at e1
  have e2 : val 10 (qs.set i (t + 1)) = val 10 qs + 10 ^ i := by omega
  have e3 : 10 ^ i * R = 10 ^ i * m + 10 ^ i * (R - m) := by rw [← Nat.mul_add]; congr 1; omega
  rw [e2, Nat.add_mul]
  omega
theorem DivIn.leave {n m i t : Nat} {qs : List Nat} {R : Nat} (h : DivIn n m i t qs R) (hR : R < m) : DivAt n m i qs R := ⟨h.len, h.dlt, h.low, h.eq, hR⟩
theorem DivAt.done {n m : Nat} {qs : List Nat} {R : Nat} (h : DivAt n m 0 qs R) : trim qs = dig 10 (n / m) ∧ R = n % m := by
  have e := h.eq
  have hl := h.lt
  simp only [Nat.pow_zero, Nat.one_mul, Nat.div_one] at e
  rw [Nat.mul_comm, Nat.add_comm] at e
  have hd : n / m = val 10 qs := by rw [← e, Nat.add_mul_div_left _ _ (by omega), Nat.div_eq_of_lt hl, Nat.zero_add]
  have hr : n % m = R := by rw [← e, Nat.add_mul_mod_self_left, Nat.mod_eq_of_lt hl]
  exact ⟨by rw [trim_dig (by omega) qs h.dlt, hd], hr.symm⟩

/-- What Root knows behind the digits from j on. -/
structure RootAt (n j : Nat) (os : List Nat) : Prop where
  len : os.length = ((dig 10 n).length + 1) / 2
  dlt : ∀ d ∈ os, d < 10
  low : ∀ s, s < j → os[s]?.getD 0 = 0
  lo : val 10 os * val 10 os ≤ n
  hi : n < (val 10 os + 10 ^ j) * (val 10 os + 10 ^ j)
/-- The same within a round. -/
structure RootIn (n i t : Nat) (os : List Nat) : Prop where
  len : os.length = ((dig 10 n).length + 1) / 2
  dlt : ∀ d ∈ os, d < 10
  low : ∀ s, s < i → os[s]?.getD 0 = 0
  cur : os[i]?.getD 0 = t
  base : ∃ b, val 10 os = b + 10 ^ i * t ∧ b * b ≤ n
  hi : n < (val 10 os + 10 ^ i) * (val 10 os + 10 ^ i)
theorem RootAt.start (n : Nat) : RootAt n (((dig 10 n).length + 1) / 2) (List.replicate (((dig 10 n).length + 1) / 2) 0) := by
  have h := (dig_length_le (B := 10) (by omega) n _).1 (Nat.le_refl _)
  refine ⟨by simp, fun d hd => mem_zeros hd, fun s _ => getD_zeros _ _, by rw [val_zeros]; omega, ?_⟩
  rw [val_zeros, Nat.zero_add, ← Nat.pow_add]
  exact Nat.lt_of_lt_of_le h (Nat.pow_le_pow_right (by omega) (by omega))
theorem RootAt.enter {n i : Nat} {os : List Nat} (h : RootAt n (i + 1) os) (hi : i < os.length) : RootIn n i 9 (os.set i 9) := by
  have e1 := val_set 10 os i 9 hi
  rw [h.low i (by omega), Nat.mul_zero, Nat.add_zero] at e1
  refine ⟨by simpa using h.len, mem_set_lt h.dlt (by omega), fun s hs => by rw [List.getElem?_set_ne (by omega)]; exact h.low s (by omega), by rw [List.getElem?_set_self hi]; rfl, ⟨val 10 os, e1, h.lo⟩, ?_⟩
  have h2 := h.hi
  rw [e1, show val 10 os + 10 ^ i * 9 + 10 ^ i = val 10 os + 10 ^ (i + 1) from by rw [Nat.pow_succ]; omega]
  exact h2
theorem RootIn.step {n i t : Nat} {os : List Nat} (h : RootIn n i (t + 1) os) (hi : i < os.length) (hg : n < val 10 os * val 10 os) : RootIn n i t (os.set i t) := by
  have e1 := val_set 10 os i t hi
  obtain ⟨b, hb, hbb⟩ := h.base
  rw [h.cur, Nat.mul_add, Nat.mul_one] at e1
  have e2 : val 10 (os.set i t) + 10 ^ i = val 10 os := by omega
  refine ⟨by simpa using h.len, mem_set_lt h.dlt ?_, fun s hs => by rw [List.getElem?_set_ne (by omega)]; exact h.low s hs, by rw [List.getElem?_set_self hi]; rfl, ⟨b, ?_, hbb⟩, by rw [e2]; exact hg⟩
  · have := h.dlt (t + 1) (List.mem_of_getElem? (i := i) (by
      have := h.cur
      rw [List.getElem?_eq_getElem hi] at this ⊢
      simpa using this))
    omega
  · rw [Nat.mul_add, Nat.mul_one] at hb
    omega
theorem RootIn.leave {n i t : Nat} {os : List Nat} (h : RootIn n i t os) (hR : t = 0 ∨ val 10 os * val 10 os ≤ n) : RootAt n i os := by
  refine ⟨h.len, h.dlt, h.low, ?_, h.hi⟩
  rcases hR with rfl | hR
  · obtain ⟨b, hb, hbb⟩ := h.base
    rw [hb, Nat.mul_zero, Nat.add_zero]
    exact hbb
  · exact hR
theorem RootAt.done {n : Nat} {os : List Nat} (h : RootAt n 0 os) : ∃ r, trim os = dig 10 r ∧ r * r ≤ n ∧ n < (r + 1) * (r + 1) :=
  ⟨val 10 os, trim_dig (by omega) os h.dlt, h.lo, by have := h.hi; rwa [Nat.pow_zero] at this⟩
end Go.Proofs.YtgngepbemgbbeaaGreatDoor

