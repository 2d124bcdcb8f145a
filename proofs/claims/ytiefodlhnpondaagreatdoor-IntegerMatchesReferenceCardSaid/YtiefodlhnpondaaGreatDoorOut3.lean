/-
  The functions that package integer exports, third part: Valid, FromInt, Gcd.
-/
import Derived.Test.YtiefodlhnpondaaGreatDoorOut2
namespace Go.Proofs.YtiefodlhnpondaaGreatDoor
open Go.RowKit Go.Shelf
attribute [local go_sem] Oper.semAt_some

theorem Valid_any (s : ByteArray) (w : World) (hs : s.size ≤ 9223372036854775807) :
    Calls Tryz.prog 19 #[.string s] w fun e w' => e = .returned (.bool (numOf s).isSome) ∧ Below w.heap.size w w' := by
  rw [numOf_valid]
  have hV := fun W => isValid_any s W hs
  go_enter Tryz.func19, Tryz.ntmps19
  go_wp2_with (go_at_call 47; with_reducible refine (hV _).mono ?_; rintro e w1 ⟨rfl, hb1⟩)
  go_ret
  exact ⟨rfl, hb1⟩
theorem FromInt_any (z : Int) (w : World) (hG : Glob w) (h0 : -9223372036854775808 ≤ z) (h1 : z ≤ 9223372036854775807) :
    Calls Tryz.prog 35 #[.int .i64 z] w fun e w' => e = .returned (.string (str z)) ∧ Below w.heap.size w w' := by
  have hI := fun W hG => Itoa_any z W hG h0 h1
  generalize str z = s at hI ⊢
  go_enter Tryz.func35, Tryz.ntmps35
  go_wp2_with (go_at_call 58; with_reducible refine (hI _ hG).mono ?_; rintro e w1 ⟨rfl, hb1⟩)
  go_ret
  exact ⟨rfl, hb1⟩

/-- What a slice of groups reads as is one number. -/
theorem ns_inj {w : World} {v : Value} {xs ys : List Nat} {lo hi lo' hi' : Nat} (h : Ns w v xs lo hi) (k : Ns w v ys lo' hi') : xs = ys := by
  obtain ⟨a, cap, rfl, _⟩ := id h
  have hl : xs.length = ys.length := by
    obtain ⟨a', cap', e, _⟩ := id k
    simp only [Value.slice.injEq] at e
    omega
  apply List.ext_getElem hl
  intro i h1 h2
  obtain ⟨b, off, rfl, _, _, e1⟩ := h.at (k := i) h1
  obtain ⟨b', off', e, _, _, e2⟩ := k.at (k := i) h2
  simp only [Option.some.injEq, Addr.mk.injEq, and_true] at e
  obtain ⟨rfl, rfl⟩ := e
  rw [e1] at e2
  simp only [Option.some.injEq, Value.int.injEq, true_and] at e2
  omega
theorem nm_measure : ∃ μ : World → Value → Nat, ∀ w v n lo hi, Nm w v n lo hi → μ w v = n := by
  refine ⟨fun w v => Classical.epsilon (fun n => ∃ lo hi, Nm w v n lo hi), ?_⟩
  intro w v n lo hi h
  obtain ⟨lo', hi', h'⟩ := Classical.epsilon_spec (p := fun n => ∃ lo hi, Nm w v n lo hi) ⟨n, lo, hi, h⟩
  exact dig_inj (B := 10000) (by omega) (ns_inj h' h)
theorem nm_pos {w : World} {v : Value} {n lo hi : Nat} (_h : Nm w v n lo hi) : (dig 10000 n).length = 0 ↔ n = 0 := by
  rw [List.length_eq_zero_iff, dig_nil (by omega)]

set_option maxHeartbeats 8000000 in
set_option maxRecDepth 100000 in
theorem Gcd_ok (x y : Int) (w : World) (hG : Glob w) (hx : small x = true) (hy : small y = true) :
    Calls Tryz.prog 20 #[.string (str x), .string (str y)] w fun e w' => (∃ s n, outZ ((Nat.gcd x.natAbs y.natAbs : Nat) : Int) = #[.string s, .int .i64 n] ∧ e = .returned (.tuple #[.string s, .int .i64 n])) ∧ Below w.heap.size w w' := by
  have hB := fun W => both_ok x y W (by simpa [small] using hx) (by simpa [small] using hy)
  obtain ⟨μ, hμ⟩ := nm_measure
  have hMU := Lib.hid hμ
  have hX := small_lt hx
  have hY := small_lt hy
  clear hμ
  generalize str x = sx at hB ⊢
  generalize str y = sy at hB ⊢
  go_enter Tryz.func20, Tryz.ntmps20
  go_wp2_with (go_at_call 38; with_reducible refine (hB _).mono ?_; rintro e w1 ⟨⟨va, vb, rfl, ha, hb⟩, hb1⟩; obtain ⟨n1, m1, a1, c1, rfl, hna, hza⟩ := ha.form; obtain ⟨n2, m2, a2, c2, rfl, hnb, hzb⟩ := hb.form; have HA := Lib.hid ha.zg; have HB := Lib.hid hb.zg; have HNA := Lib.hid hna; have HNB := Lib.hid hnb; have HZA := Lib.hid (zs_eq hza); have HZB := Lib.hid (zs_eq hzb); have HSA := Lib.hid hza; have HSB := Lib.hid hzb; have HG1 := Lib.hid (hG.below hb1); clear ha hb hna hnb hza hzb)
  have HP := Lib.hid (PairAt.start w1 n1 n2 (.slice a1 (dig 10000 m1).length c1) (.slice a2 (dig 10000 m2).length c2)).drew
  go_region_held3 (fun W => W.cell? ⟨w1.heap.size, 1, none⟩ = some (.slice a1 (dig 10000 m1).length c1) ∧ W.cell? ⟨w1.heap.size + 1, 1, none⟩ = some (.slice a2 (dig 10000 m2).length c2)) (first | exact ⟨HP.out.x1, HP.out.y1⟩) (first | fail)
  go_wp2
  obtain ⟨W0, hW0⟩ : ∃ W0, ((w1.alloc (Obj.cells #[Value.bool n1, Value.slice a1 (dig 10000 m1).length c1] 50)).alloc (Obj.cells #[Value.bool n2, Value.slice a2 (dig 10000 m2).length c2] 50)).drew = W0 := ⟨_, rfl⟩
  have hbW : Below w1.heap.size w1 W0 := by rw [← hW0]; exact B2d w1 _ _
  have hw1 := hb1.size
  rw [hW0]
  clear hW0
  go_loopw [9, 10, 11, 12] (fun k l _ _ wr => ∃ (K L : Nat) (ka la : Option Addr) (kc lc : Nat), k = .slice ka (dig 10000 K).length kc ∧ l = .slice la (dig 10000 L).length lc ∧ Nm wr k K w.heap.size wr.heap.size ∧ Nm wr l L w.heap.size wr.heap.size ∧ K < 10000 ^ 50 ∧ L < 10000 ^ 50 ∧ Nat.gcd K L = Nat.gcd x.natAbs y.natAbs ∧ Below w.heap.size w wr)
    (fun _ l _ _ wr => μ wr l)
  case atStart =>
    refine ⟨m1, m2, a1, a2, c1, c2, rfl, rfl, (HNA.out.below hbW (Nat.le_refl _)).mono (Nat.le_refl _) hbW.size, (HNB.out.below hbW (Nat.le_refl _)).mono (Nat.le_refl _) hbW.size, ?_, ?_, ?_, hb1.trans (hbW.mono hw1)⟩
    · rw [HSA.out.2]; exact hX
    · rw [HSB.out.2]; exact hY
    · rw [HSA.out.2, HSB.out.2]
  case round =>
    obtain ⟨K, L, ka, la, kc, lc, rfl, rfl, hk, hl, hK, hL, hgcd, hb⟩ := hrel
    have hfK : (dig 10000 K).length ≤ 50 := (dig_length_le (by omega) _ _).2 hK
    have hfL : (dig 10000 L).length ≤ 50 := (dig_length_le (by omega) _ _).2 hL
    have hpos := nm_pos hl
    have HK := Lib.hid hk
    have HL := Lib.hid hl
    have HGC := Lib.hid hgcd
    have HKb := Lib.hid hK
    have HLb := Lib.hid hL
    have HGw := Lib.hid (hG.below hb)
    have hwr := hb.size
    clear hk hl hgcd hK hL
    rcases Nat.eq_zero_or_pos L with h0 | h0
    · have hz := hpos.2 h0
      clear hpos
      rw [hz]
      go_wp2_with (go_at_call 40; refine (text_any _ (K : Int) _ _ _ (by exact HGw.out) (by exact Zg.of (neg := false) HK.out rfl) (Nat.le_refl _) (by show (dig 10000 K).length ≤ 1000000; omega)).mono ?_; rintro e w3 ⟨⟨s, n, hs, rfl⟩, hb3⟩)
      have e : Nat.gcd x.natAbs y.natAbs = K := by rw [← HGC.out, h0, Nat.gcd_zero_right]
      refine bodyPost_ret (v := .tuple #[.string s, .int .i64 n]) ?_ rfl ⟨⟨s, n, by rw [e]; exact hs, rfl⟩, hb.trans (hb3.mono hwr)⟩
      simp [results, Tryz.results20, go_sem]
    · have hz : 0 < (dig 10000 L).length := by omega
      clear hpos
      go_wp2_with (go_at_call 42; refine (over_any _ _ K L _ _ _ _ _ (by exact HK.out) (by exact HL.out) (Nat.le_refl _) (Nat.le_refl _) (by omega) (by omega) h0).mono ?_; rintro e w3 ⟨⟨q, r, rfl, hq, hr⟩, hb3⟩; obtain ⟨qa, qc, rfl⟩ : ∃ a cap, q = .slice a (dig 10000 (K / L)).length cap := (by obtain ⟨a, cap, e, _⟩ := hq; exact ⟨a, cap, e⟩); obtain ⟨ra, rc, rfl⟩ : ∃ a cap, r = .slice a (dig 10000 (K % L)).length cap := (by obtain ⟨a, cap, e, _⟩ := hr; exact ⟨a, cap, e⟩); have HR := Lib.hid hr; clear hq hr)
      have hlt : K % L < L := Nat.mod_lt _ h0
      refine ⟨⟨L, K % L, la, ra, lc, rc, rfl, rfl, (HL.out.below hb3 (Nat.le_refl _)).mono (Nat.le_refl _) hb3.size, HR.out.mono hwr (Nat.le_refl _), HLb.out, Nat.lt_trans hlt HLb.out, ?_, hb.trans (hb3.mono hwr)⟩, ?_⟩
      · rw [← HGC.out, Nat.gcd_comm K L, Nat.gcd_rec L K, Nat.gcd_comm]
      · rw [hMU.out _ _ _ _ _ HR.out, hMU.out _ _ _ _ _ HL.out]; exact hlt
end Go.Proofs.YtiefodlhnpondaaGreatDoor
