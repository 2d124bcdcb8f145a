/-
  Plain facts on numbers as lists of digits, the lowest one first, to a base of at least 2. No code of the program is named here.
  Plain facts on integers as texts: a '-' where one is negative, then the decimal digits. No code of the program is named here.
-/
import Derived.Lib.ItoaMem
namespace Go.Proofs.YtgngepbemgbbeaaGreatDoor

/-- The number that digits stand for. -/
def val (B : Nat) : List Nat → Nat
  | [] => 0
  | d :: ds => d + B * val B ds

def digF (B : Nat) : Nat → Nat → List Nat
  | 0, _ => []
  | f + 1, n => if n = 0 then [] else n % B :: digF B f (n / B)
/-- The digits of a number; 0 has none. -/
def dig (B n : Nat) : List Nat := digF B n n

theorem div_lt_of {B n : Nat} (hB : 2 ≤ B) (hn : 0 < n) : n / B < n := Nat.div_lt_self hn hB

theorem digF_fuel {B : Nat} (hB : 2 ≤ B) : ∀ (f g n : Nat), n ≤ f → n ≤ g → digF B f n = digF B g n := by
  intro f
  induction f with
  | zero => intro g n hf hg; obtain rfl : n = 0 := by omega
            cases g <;> simp [digF]
  | succ f ih =>
    intro g n hf hg
    cases g with
    | zero => obtain rfl : n = 0 := by omega
              simp [digF]
    | succ g =>
      by_cases h : n = 0
      · simp [digF, h]
      · have := div_lt_of hB (Nat.pos_of_ne_zero h)
        simp only [digF, if_neg h]
        rw [ih g (n / B) (by omega) (by omega)]
theorem dig_zero (B : Nat) : dig B 0 = [] := rfl
theorem dig_pos {B n : Nat} (hB : 2 ≤ B) (hn : 0 < n) : dig B n = n % B :: dig B (n / B) := by
  have := div_lt_of hB hn
  unfold dig
  obtain ⟨m, rfl⟩ : ∃ m, n = m + 1 := ⟨n - 1, by omega⟩
  rw [digF, if_neg (by omega)]
  rw [digF_fuel hB m ((m + 1) / B) ((m + 1) / B) (by omega) (by omega)]
theorem dig_induct {B : Nat} (hB : 2 ≤ B) {P : Nat → Prop} (h0 : P 0) (hs : ∀ n, 0 < n → P (n / B) → P n) (n : Nat) : P n := by
  induction n using Nat.strongRecOn with
  | _ n ih =>
    by_cases h : n = 0
    · rw [h]; exact h0
    · exact hs n (by omega) (ih _ (div_lt_of hB (by omega)))
theorem val_dig {B : Nat} (hB : 2 ≤ B) (n : Nat) : val B (dig B n) = n := by
  induction n using dig_induct hB with
  | h0 => rfl
  | hs n hn ih => rw [dig_pos hB hn, val, ih]; exact Nat.mod_add_div n B
theorem dig_lt {B : Nat} (hB : 2 ≤ B) (n : Nat) : ∀ d ∈ dig B n, d < B := by
  induction n using dig_induct hB with
  | h0 => intro d hd; simp [dig_zero] at hd
  | hs n hn ih =>
    intro d hd
    rw [dig_pos hB hn] at hd
    rcases List.mem_cons.1 hd with rfl | h
    · exact Nat.mod_lt _ (by omega)
    · exact ih d h
theorem dig_nil {B n : Nat} (hB : 2 ≤ B) : dig B n = [] ↔ n = 0 := by
  constructor
  · intro h
    by_cases hn : n = 0
    · exact hn
    · rw [dig_pos hB (by omega)] at h; cases h
  · rintro rfl; rfl
theorem val_append (B : Nat) (a b : List Nat) : val B (a ++ b) = val B a + B ^ a.length * val B b := by
  induction a with
  | nil => simp [val]
  | cons d ds ih => simp only [List.cons_append, val, ih, List.length_cons, Nat.pow_succ, Nat.mul_add]; rw [Nat.mul_comm (B ^ ds.length) B, Nat.mul_assoc]; omega
theorem val_lt {B : Nat} (_hB : 2 ≤ B) : ∀ (l : List Nat), (∀ d ∈ l, d < B) → val B l < B ^ l.length := by
  intro l
  induction l with
  | nil => intro _; simp [val]
  | cons d ds ih =>
    intro h
    have h1 := ih (fun x hx => h x (List.mem_cons_of_mem _ hx))
    have h2 := h d (List.mem_cons_self)
    simp only [val, List.length_cons, Nat.pow_succ]
    have : B * (val B ds + 1) ≤ B * B ^ ds.length := Nat.mul_le_mul_left B h1
    rw [Nat.mul_comm (B ^ ds.length) B]
    rw [Nat.mul_add] at this
    omega
theorem dig_of_lt {B d : Nat} (hB : 2 ≤ B) (hd : 0 < d) (h : d < B) : dig B d = [d] := by
  rw [dig_pos hB hd, Nat.mod_eq_of_lt h, Nat.div_eq_of_lt h, dig_zero]
theorem dig_cons {B d n : Nat} (hB : 2 ≤ B) (h : d < B) (hp : 0 < d + B * n) : dig B (d + B * n) = d :: dig B n := by
  rw [dig_pos hB hp, Nat.add_mul_mod_self_left, Nat.mod_eq_of_lt h, Nat.add_mul_div_left _ _ (by omega), Nat.div_eq_of_lt h, Nat.zero_add]

/-- Digits without zeros at the end. -/
def trim : List Nat → List Nat
  | [] => []
  | d :: ds => if d = 0 ∧ trim ds = [] then [] else d :: trim ds
theorem trim_dig {B : Nat} (hB : 2 ≤ B) : ∀ (l : List Nat), (∀ d ∈ l, d < B) → trim l = dig B (val B l) := by
  intro l
  induction l with
  | nil => intro _; rfl
  | cons d ds ih =>
    intro h
    have e := ih (fun x hx => h x (List.mem_cons_of_mem _ hx))
    have hd := h d (List.mem_cons_self)
    simp only [trim, val, e, dig_nil hB]
    by_cases hz : d = 0 ∧ val B ds = 0
    · rw [if_pos hz, hz.1, hz.2]; rfl
    · rw [if_neg hz, dig_cons hB hd]
      by_cases h0 : d = 0
      · have h1 : val B ds ≠ 0 := fun h => hz ⟨h0, h⟩
        have := Nat.mul_pos (show 0 < B by omega) (Nat.pos_of_ne_zero h1)
        omega
      · omega
theorem trim_snoc_zero : ∀ (l : List Nat), trim (l ++ [0]) = trim l := by
  intro l
  induction l with
  | nil => rfl
  | cons d ds ih => simp only [List.cons_append, trim, ih]
theorem trim_snoc_ne {d : Nat} (hd : d ≠ 0) : ∀ (l : List Nat), trim (l ++ [d]) = l ++ [d] := by
  intro l
  induction l with
  | nil => simp [trim, hd]
  | cons x ds ih => simp only [List.cons_append, trim, ih]; rw [if_neg (by simp)]
theorem trim_of_last {l : List Nat} (h : ∀ d, l.getLast? = some d → d ≠ 0) : trim l = l := by
  rcases List.eq_nil_or_concat l with rfl | ⟨ini, d, rfl⟩
  · rfl
  · simp only [List.concat_eq_append]
    exact trim_snoc_ne (h d (by simp)) ini
/-- The loop that leaves out zeros at the end: behind place k there are zeros alone. -/
theorem trim_take_zero {l : List Nat} {k : Nat} (h : l[k]?.getD 0 = 0) (hk : k < l.length) : trim (l.take (k + 1)) = trim (l.take k) := by
  rw [List.take_succ_eq_append_getElem hk]
  have : l[k] = 0 := by simpa [hk] using h
  rw [this, trim_snoc_zero]
theorem trim_take_ne {l : List Nat} {k : Nat} (h : l[k]?.getD 0 ≠ 0) (hk : k < l.length) : trim (l.take (k + 1)) = l.take (k + 1) := by
  rw [List.take_succ_eq_append_getElem hk]
  exact trim_snoc_ne (by simpa [hk] using h) _
theorem dig_length_le {B : Nat} (hB : 2 ≤ B) (n k : Nat) : (dig B n).length ≤ k ↔ n < B ^ k := by
  constructor
  · intro h
    have h1 := val_lt hB (dig B n) (dig_lt hB n)
    rw [val_dig hB] at h1
    exact Nat.lt_of_lt_of_le h1 (Nat.pow_le_pow_right (by omega) h)
  · intro h
    induction n using dig_induct hB generalizing k with
    | h0 => simp [dig_zero]
    | hs n hn ih =>
      rw [dig_pos hB hn]
      cases k with
      | zero => simp at h; omega
      | succ k =>
        have : n / B < B ^ k := by
          rw [Nat.div_lt_iff_lt_mul (by omega)]
          rw [Nat.pow_succ] at h
          exact h
        have := ih k this
        simp only [List.length_cons]
        omega
theorem dig_length_mono {B n m : Nat} (hB : 2 ≤ B) (h : m ≤ n) : (dig B m).length ≤ (dig B n).length := by
  rw [dig_length_le hB]
  exact Nat.lt_of_le_of_lt h ((dig_length_le hB n _).1 (Nat.le_refl _))
theorem dig_last {B : Nat} (hB : 2 ≤ B) (n : Nat) : trim (dig B n) = dig B n := by
  rw [trim_dig hB _ (dig_lt hB n), val_dig hB]
theorem dig_inj {B n m : Nat} (hB : 2 ≤ B) (h : dig B n = dig B m) : n = m := by rw [← val_dig hB n, ← val_dig hB m, h]
theorem val_take_succ (B : Nat) (l : List Nat) (k : Nat) (hk : k < l.length) : val B (l.take (k + 1)) = val B (l.take k) + B ^ k * (l[k]?.getD 0) := by
  rw [List.take_succ_eq_append_getElem hk, val_append]
  simp [val, hk, Nat.min_eq_left (Nat.le_of_lt hk)]
end Go.Proofs.YtgngepbemgbbeaaGreatDoor

namespace Go.Proofs.YtgngepbemgbbeaaGreatDoor

/-- The digits of a number as bytes, the highest one first; 0 has one. -/
def txtN (n : Nat) : List UInt8 := if n = 0 then [48] else (dig 10 n).reverse.map fun d => UInt8.ofNat (48 + d)
/-- An integer as a text. -/
def txt (z : Int) : List UInt8 := if z < 0 then 45 :: txtN z.natAbs else txtN z.natAbs
/-- How many digits a number has. -/
def nDig (n : Nat) : Nat := (txtN n).length
/-- An integer as a string. -/
def str (z : Int) : ByteArray := ⟨(txt z).toArray⟩

theorem txtN_pos {n : Nat} (h : 0 < n) : txtN n = (dig 10 n).reverse.map fun d => UInt8.ofNat (48 + d) := by unfold txtN; rw [if_neg (by omega)]
theorem decDigits_txtN (n : Nat) : Lib.decDigits n = txtN n := by
  induction n using dig_induct (B := 10) (by omega) with
  | h0 => rw [Lib.decDigits]; rfl
  | hs n hn ih =>
    rw [Lib.decDigits]
    by_cases h : n < 10
    · rw [dif_pos h, txtN_pos hn, dig_of_lt (by omega) hn h]; rfl
    · rw [dif_neg h, ih, txtN_pos hn, txtN_pos (by omega), dig_pos (by omega) hn]
      simp
theorem itoa_txt (z : Int) : Lib.itoa z = txt z := by
  unfold Lib.itoa txt
  rw [decDigits_txtN, decDigits_txtN]
  by_cases h : z < 0
  · rw [if_pos h, if_pos h]
  · rw [if_neg h, if_neg h, show z.toNat = z.natAbs from by omega]
theorem dig_byte {d : Nat} (h : d < 10) : (UInt8.ofNat (48 + d)).toNat = 48 + d := by simp; omega
theorem nDig_pos (n : Nat) : 0 < nDig n := by
  unfold nDig
  by_cases h : n = 0
  · subst h; decide
  · rw [txtN_pos (by omega), dig_pos (by omega) (by omega)]; simp
theorem nDig_le {n k : Nat} (hk : 0 < k) : nDig n ≤ k ↔ n < 10 ^ k := by
  unfold nDig
  by_cases h : n = 0
  · subst h
    have : 0 < 10 ^ k := Nat.pow_pos (by omega)
    simp [txtN]
    omega
  · rw [txtN_pos (by omega)]
    simp only [List.length_map, List.length_reverse]
    exact dig_length_le (by omega) n k
/-- The number that bytes stand for, if each is a digit: the highest one first. -/
def valB (l : List UInt8) : Nat := val 10 (l.reverse.map fun c => c.toNat - 48)
theorem valB_txtN (n : Nat) : valB (txtN n) = n := by
  by_cases h : n = 0
  · subst h; rfl
  · rw [txtN_pos (by omega), valB, ← List.map_reverse, List.reverse_reverse, List.map_map]
    have : (dig 10 n).map ((fun c : UInt8 => c.toNat - 48) ∘ fun d => UInt8.ofNat (48 + d)) = dig 10 n := by
      conv => rhs; rw [← List.map_id (dig 10 n)]
      apply List.map_congr_left
      intro d hd
      have := dig_lt (B := 10) (by omega) n d hd
      simp only [Function.comp]
      rw [dig_byte this]
      simp
    rw [this, val_dig (by omega)]
theorem txtN_inj {n m : Nat} (h : txtN n = txtN m) : n = m := by rw [← valB_txtN n, ← valB_txtN m, h]
theorem txtN_digits (n : Nat) : ∀ c ∈ txtN n, 48 ≤ c.toNat ∧ c.toNat ≤ 57 := by
  intro c hc
  by_cases h : n = 0
  · subst h; simp [txtN] at hc; subst hc; decide
  · rw [txtN_pos (by omega)] at hc
    obtain ⟨d, hd, rfl⟩ := List.mem_map.1 hc
    have := dig_lt (B := 10) (by omega) n d (by simpa using hd)
    rw [dig_byte this]
    omega
theorem txt_inj {a b : Int} (h : txt a = txt b) : a = b := by
  unfold txt at h
  have key : ∀ n m, 45 :: txtN n ≠ txtN m := by
    intro n m e
    have := txtN_digits m 45 (by rw [← e]; simp)
    revert this; decide
  by_cases h1 : a < 0 <;> by_cases h2 : b < 0
  · rw [if_pos h1, if_pos h2] at h
    have := txtN_inj (List.cons.inj h).2
    omega
  · rw [if_pos h1, if_neg h2] at h; exact absurd h (key _ _)
  · rw [if_neg h1, if_pos h2] at h; exact absurd h.symm (key _ _)
  · rw [if_neg h1, if_neg h2] at h
    have := txtN_inj h
    omega
theorem str_inj {a b : Int} (h : str a = str b) : a = b := by
  unfold str at h
  have := congrArg (fun s : ByteArray => s.data.toList) h
  exact txt_inj this
theorem str_size (z : Int) : (str z).size = (txt z).length := by
  show (txt z).toArray.size = _
  simp
theorem txt_length (z : Int) : (txt z).length ≤ nDig z.natAbs + 1 := by
  unfold txt nDig
  split <;> simp

/-- What is left of a text without a '-' in front. -/
def unsign (l : List UInt8) : List UInt8 := if l.head? = some 45 then l.tail else l
/-- Is a text an integer: digits, at most 200, no 0 in front, and no '-' before 0? -/
def validL (l : List UInt8) : Bool := !(unsign l).isEmpty && decide ((unsign l).length ≤ 200) && (unsign l).all (fun c => decide (48 ≤ c.toNat ∧ c.toNat ≤ 57)) && (decide (l = [48]) || decide ((unsign l).head? ≠ some 48))

theorem txtN_head {n : Nat} (hn : 0 < n) : (txtN n).head? ≠ some 48 := by
  rw [txtN_pos hn]
  intro h
  have h1 := dig_last (B := 10) (by omega) n
  rcases List.eq_nil_or_concat (dig 10 n) with h2 | ⟨ini, d, h2⟩
  · rw [dig_nil (by omega)] at h2; omega
  · simp only [List.concat_eq_append] at h2
    rw [h2] at h h1
    simp only [List.reverse_append, List.reverse_cons, List.reverse_nil, List.nil_append, List.cons_append, List.map_cons, List.head?_cons, Option.some.injEq] at h
    have hd : d < 10 := dig_lt (B := 10) (by omega) n d (by rw [h2]; simp)
    have h3 : d = 0 := by
      have := congrArg UInt8.toNat h
      rw [dig_byte hd] at this
      simp at this
      omega
    subst h3
    rw [trim_snoc_zero] at h1
    have h4 : (trim ini).length ≤ ini.length := by
      clear h h1 h2 hd
      induction ini with
      | nil => simp [trim]
      | cons x xs ih => simp only [trim]; split <;> simp <;> omega
    rw [h1] at h4
    simp only [List.length_append, List.length_cons, List.length_nil] at h4
    omega
theorem txtN_valB {l : List UInt8} (hne : l ≠ []) (hd : ∀ c ∈ l, 48 ≤ c.toNat ∧ c.toNat ≤ 57) (hh : l.head? ≠ some 48) : txtN (valB l) = l ∧ 0 < valB l := by
  have hlt : ∀ d ∈ l.reverse.map (fun c => c.toNat - 48), d < 10 := by
    intro d h
    obtain ⟨c, hc, rfl⟩ := List.mem_map.1 h
    have := hd c (by simpa using hc)
    omega
  have hlast : trim (l.reverse.map fun c => c.toNat - 48) = l.reverse.map fun c => c.toNat - 48 := by
    apply trim_of_last
    intro d h
    rw [List.getLast?_map, List.getLast?_reverse] at h
    cases l with
    | nil => exact absurd rfl hne
    | cons c cs =>
      simp at h hh
      have := hd c (by simp)
      intro h0
      apply hh
      apply UInt8.toNat_inj.1
      show c.toNat = 48
      omega
  have hdig : dig 10 (valB l) = l.reverse.map fun c => c.toNat - 48 := by
    rw [← hlast, valB]
    exact (trim_dig (by omega) _ hlt).symm
  have hpos : 0 < valB l := by
    rcases Nat.eq_zero_or_pos (valB l) with h | h
    · rw [h, dig_zero] at hdig
      have := congrArg List.length hdig
      simp at this
      exact absurd this.symm (by simpa using hne)
    · exact h
  refine ⟨?_, hpos⟩
  rw [txtN_pos hpos, hdig, ← List.map_reverse, List.reverse_reverse, List.map_map]
  conv => rhs; rw [← List.map_id l]
  apply List.map_congr_left
  intro c hc
  have := hd c hc
  simp only [Function.comp, id]
  apply UInt8.toNat_inj.1
  rw [dig_byte (by omega)]
  omega

theorem unsign_txt (z : Int) : unsign (txt z) = txtN z.natAbs := by
  unfold unsign txt
  by_cases h : z < 0
  · rw [if_pos h]; simp
  · rw [if_neg h, if_neg]
    intro e
    have : (45 : UInt8) ∈ txtN z.natAbs := List.mem_of_mem_head? (by rw [e]; simp)
    have := txtN_digits _ _ this
    revert this; decide
theorem txtN_ne (n : Nat) : txtN n ≠ [] := by
  intro h
  have := nDig_pos n
  unfold nDig at this
  rw [h] at this
  simp at this
theorem validL_txt (z : Int) : validL (txt z) = decide (nDig z.natAbs ≤ 200) := by
  unfold validL
  rw [unsign_txt]
  have h1 : (txtN z.natAbs).isEmpty = false := by
    cases h : txtN z.natAbs with
    | nil => exact absurd h (txtN_ne _)
    | cons => rfl
  have h2 : (txtN z.natAbs).all (fun c => decide (48 ≤ c.toNat ∧ c.toNat ≤ 57)) = true := by
    rw [List.all_eq_true]
    intro c hc
    simpa using txtN_digits _ c hc
  have h3 : (decide (txt z = [48]) || decide ((txtN z.natAbs).head? ≠ some 48)) = true := by
    by_cases h : z = 0
    · subst h; decide
    · rw [Bool.or_eq_true]; right; simpa using txtN_head (n := z.natAbs) (by omega)
  rw [h1, h2, h3]
  simp only [Bool.not_false, Bool.true_and, Bool.and_true]
  exact decide_eq_decide.2 Iff.rfl
theorem validL_is {l : List UInt8} (h : validL l = true) : ∃ z, l = txt z ∧ nDig z.natAbs ≤ 200 := by
  have hv := h
  unfold validL at h
  simp only [Bool.and_eq_true, Bool.or_eq_true, Bool.not_eq_true', decide_eq_true_eq, List.all_eq_true] at h
  obtain ⟨⟨⟨h1, h2⟩, h3⟩, h4⟩ := h
  have hne : unsign l ≠ [] := by intro e; rw [e] at h1; simp at h1
  have key : ∃ z, l = txt z := by
    rcases h4 with h4 | h4
    · exact ⟨0, h4⟩
    · obtain ⟨h5, h6⟩ := txtN_valB hne h3 h4
      unfold unsign at h5 h6
      by_cases hs : l.head? = some 45
      · rw [if_pos hs] at h5 h6
        refine ⟨-(valB l.tail : Int), ?_⟩
        unfold txt
        rw [if_pos (by omega), show (-(valB l.tail : Int)).natAbs = valB l.tail from by omega, h5]
        cases l with
        | nil => simp at hs
        | cons c cs => simp at hs; simp [hs]
      · rw [if_neg hs] at h5 h6
        refine ⟨(valB l : Int), ?_⟩
        unfold txt
        rw [if_neg (by omega), show ((valB l : Nat) : Int).natAbs = valB l from by omega, h5]
  obtain ⟨z, rfl⟩ := key
  rw [validL_txt] at hv
  exact ⟨z, rfl, by simpa using hv⟩

end Go.Proofs.YtgngepbemgbbeaaGreatDoor

