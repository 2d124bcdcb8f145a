/-
  The reference implementation's Made: an integer that a string determines.
-/
import Derived.Deep.RegionHeld3
import Derived.Test.YtgngepbemgbbeaaGreatDoorZRef
import Derived.Test.YtgngepbemgbbeaaGreatDoorZParse
namespace Go.Proofs.YtgngepbemgbbeaaGreatDoor
open Go.RowKit Go.Shelf
attribute [local go_sem] Oper.semAt_some

/-- The digits that a text determines, and the integer. -/
def madeD (l : List UInt8) (most : Nat) : List Nat := (l.take most).map fun c => c.toNat % 10
def madeZ (l : List UInt8) (most : Nat) : Int := if (l.head?.map fun c => decide (128 ≤ c.toNat)) = some true then -(val 10 (madeD l most) : Int) else val 10 (madeD l most)
theorem madeD_lt (l : List UInt8) (most : Nat) : ∀ d ∈ madeD l most, d < 10 := by
  intro d h
  obtain ⟨c, _, rfl⟩ := List.mem_map.1 h
  omega
theorem madeD_length (l : List UInt8) (most : Nat) : (madeD l most).length ≤ most := by
  unfold madeD
  rw [List.length_map, List.length_take]
  omega
theorem made_small (l : List UInt8) (most : Nat) (h : 0 < most) : nDig (madeZ l most).natAbs ≤ most := by
  have h1 : (madeZ l most).natAbs = val 10 (madeD l most) := by unfold madeZ; split <;> omega
  rw [h1, nDig_le h]
  exact Nat.lt_of_lt_of_le (val_lt (by omega) _ (madeD_lt l most)) (Nat.pow_le_pow_right (by omega) (madeD_length l most))
theorem digB_trim {ds : List Nat} (h : ∀ d ∈ ds, d < 10) (hne : trim ds ≠ []) : digB (trim ds) = txtN (val 10 ds) ∧ 0 < val 10 ds := by
  rw [trim_dig (by omega) ds h] at hne ⊢
  have hp : 0 < val 10 ds := by
    rcases Nat.eq_zero_or_pos (val 10 ds) with h0 | h0
    · rw [h0] at hne; exact absurd rfl hne
    · exact h0
  exact ⟨by rw [txtN_pos hp]; rfl, hp⟩

set_option maxHeartbeats 2000000 in
theorem rtext_nil (neg : Bool) (a : Option Addr) (c : Nat) (w : World) :
    Calls Tryz.prog 155 #[.bool neg, .slice a 0 c] w fun e w' => e = .returned (.tuple #[.string ⟨#[48]⟩, .bool true]) ∧ w = w' := by
  go_enter Tryz.func155, Tryz.ntmps155
  go_wp2
  refine bodyPost_ret (v := .tuple #[.string ⟨#[48]⟩, .bool true]) ?_ rfl ⟨rfl, rfl⟩
  simp [results, Tryz.results155, go_sem]
/-- text of the trimmed digits: the integer's own text. -/
theorem rtext_trim (neg : Bool) (v : Value) (ds : List Nat) (lo top : Nat) (w : World) (h : Ns w v (trim ds) lo top) (b : top ≤ w.heap.size) (hd : ∀ d ∈ ds, d < 10) (hl : (trim ds).length ≤ 200) :
    Calls Tryz.prog 155 #[.bool neg, v] w fun e w' => (∃ s, s = str (if neg = true then -(val 10 ds : Int) else val 10 ds) ∧ e = .returned (.tuple #[.string s, .bool true])) ∧ Below w.heap.size w w' := by
  by_cases hne : trim ds = []
  · have hv : val 10 ds = 0 := by
      have := trim_dig (B := 10) (by omega) ds hd
      rw [hne] at this
      exact (dig_nil (by omega)).1 this.symm
    rw [hne] at h
    obtain ⟨a, cap, rfl⟩ : ∃ a cap, v = .slice a 0 cap := by obtain ⟨a, cap, e, _⟩ := h; exact ⟨a, cap, e⟩
    refine (rtext_nil neg a cap w).mono ?_
    rintro e w' ⟨rfl, rfl⟩
    refine ⟨⟨_, ?_, rfl⟩, Below.refl _ _⟩
    rw [hv]
    cases neg <;> rfl
  · obtain ⟨h1, h2⟩ := digB_trim hd hne
    have hlen : 0 < (trim ds).length := List.length_pos_iff.2 hne
    have hdt : ∀ d ∈ trim ds, d < 10 := by
      rw [trim_dig (by omega) ds hd]
      exact dig_lt (by omega) _
    refine (rtext_any neg v (trim ds) lo top w h b hdt (by omega) hlen).mono ?_
    rintro e w' ⟨⟨s, rfl, hs⟩, hb⟩
    refine ⟨⟨s, ?_, by rw [decide_eq_true (by omega)]⟩, hb⟩
    apply ByteArray.ext
    apply Array.toList_inj.1
    rw [hs, h1, str_list]
    unfold txt
    cases neg
    · simp only [Bool.false_eq_true, if_false]
      rw [if_neg (by omega)]; rfl
    · simp only [if_true]
      rw [if_pos (by omega), show (-(val 10 ds : Int)).natAbs = val 10 ds from by omega]; rfl

theorem made_if (c : UInt8) (n : Nat) : (if decide ((128 : Int) ≤ (c.toNat : Int)) = true then -(n : Int) else n) = if ((some c).map fun c : UInt8 => decide (128 ≤ c.toNat)) = some true then -(n : Int) else n := by
  by_cases h : 128 ≤ c.toNat
  · rw [if_pos (by simpa using by omega), if_pos (by simpa using h)]
  · rw [if_neg (by simpa using by omega), if_neg (by simpa using h)]

end Go.Proofs.YtgngepbemgbbeaaGreatDoor

