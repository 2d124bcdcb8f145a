/-
  The law RationalLimits: as soon as a product of the definition is too great, the operation is refused.
-/
import Derived.Test.YtkekafamfoifmaaGreatDoorZSane
import Derived.Test.YtkekafamfoifmaaGreatDoorZPk
import Derived.Test.YtkekafamfoifmaaGreatDoorZLimQP
import Derived.Test.YtkekafamfoifmaaGreatDoorZFqG
namespace Go.Proofs.YtkekafamfoifmaaGreatDoor
open Go.RowKit Go.Shelf
attribute [local go_sem] Oper.semAt_some

theorem lim_cmpI (n m : Nat) : cmpI (n : Int) (m : Int) = if n < m then -1 else if m < n then 1 else 0 := by
  unfold cmpI
  by_cases h1 : n < m
  · rw [if_pos (by omega), if_pos h1]
  · rw [if_neg (by omega), if_neg h1]
    by_cases h2 : m < n
    · rw [if_pos (by omega), if_pos h2]
    · rw [if_neg (by omega), if_neg h2]
set_option maxRecDepth 100000 in
set_option maxHeartbeats 8000000 in
/-- The walk, for the powers of ten of N and M zeros; z is the product, E1 and E2 the errors. -/
theorem Limits_w (n m : Int) (n1 : -9223372036854775808 ≤ n) (n2 : n ≤ 9223372036854775807) (m1 : -9223372036854775808 ≤ m) (m2 : m ≤ 9223372036854775807) {w : World} (hq : QOps w)
    (N M : Nat) (eN : N = pickN n 200) (eM : M = pickN m 200) (o1 o2 : Option Rat) (zN zD sN sD : ByteArray) (E : Int) (F : Bool)
    (hF : F = true ∧ E = 0 ∨ F = false ∧ E = 40 ∧ zN = ⟨#[]⟩ ∧ zD = ⟨#[]⟩) (hfit : decide ((N : Int) + (M : Int) + 1 ≤ 200) = F)
    (hz : op2 mulR (str ((10 : Int) ^ N)) ⟨#[49]⟩ (str ((10 : Int) ^ M)) ⟨#[49]⟩ = o1) (hs : op2 addR (str ((10 : Int) ^ N)) ⟨#[49]⟩ ⟨#[49]⟩ (str ((10 : Int) ^ M)) = o2)
    (q1 : qN o1 = zN) (q2 : qD o1 = zD) (q3 : qE o1 = E) (q4 : qN o2 = sN) (q5 : qD o2 = sD) (q6 : qE o2 = E) :
    Calls Tryz.prog 5 #[.int .i64 n, .int .i64 m] w fun e W' => e = .returned (.bool true) ∧ Below w.heap.size w W' := by
  have S0 := Lib.hid (sane_q hq)
  have hN : N < 200 := by rw [eN]; exact pickN_lt _ (by decide)
  have hM : M < 200 := by rw [eM]; exact pickN_lt _ (by decide)
  have p1 := Lib.hid (fun W => by have := pick_l n 200 n1 n2 (by decide) (by decide) W; rw [← eN, show ((200 : Nat) : Int) = 200 from rfl] at this; exact this)
  have p2 := Lib.hid (fun W => by have := pick_l m 200 m1 m2 (by decide) (by decide) W; rw [← eM, show ((200 : Nat) : Int) = 200 from rfl] at this; exact this)
  have szN : Sz (str ((10 : Int) ^ N)) := sz_str (by rw [small_ten]; exact decide_eq_true hN)
  have szM : Sz (str ((10 : Int) ^ M)) := sz_str (by rw [small_ten]; exact decide_eq_true hM)
  have KI := Lib.hid (fun (n d : ByteArray) (L : List (Nat × ByteArray × ByteArray)) (W : World) (h : BxAt L w W) => h.calls (is_b n d W))
  have KM := Lib.hid (fun (L : List (Nat × ByteArray × ByteArray)) (W : World) (h : BxAt L w W) => by have := Mul_q (hq.below h.bw).io szN sz_one szM sz_one; rw [hz, q1, q2, q3] at this; exact h.calls this)
  have KD := Lib.hid (fun (W : World) (h : Below w.heap.size w W) => by have := Div_q (hq.below h).io sz_one sz_one szM sz_one; obtain ⟨e1, e2, e3⟩ := lim_divS hM; rw [e1, e2, e3] at this; exact this)
  have KA := Lib.hid (fun (L : List (Nat × ByteArray × ByteArray)) (W : World) (h : BxAt L w W) => by have := Add_q (hq.below h.bw).io szN sz_one sz_one szM; rw [hs, q4, q5, q6] at this; exact h.calls this)
  have C1 := fun (L : List (Nat × ByteArray × ByteArray)) (W : World) (h : BxAt L w W) => by have := RCompare_q (hq.below h.bw).io szN sz_one szM sz_one; rw [lim_cmp1 hN hM, lim_cmpI] at this; exact h.calls this
  have C2 := fun (L : List (Nat × ByteArray × ByteArray)) (W : World) (h : BxAt L w W) => by have := RCompare_q (hq.below h.bw).io szN sz_one sz_one szM; rw [lim_cmp2 hN hM] at this; exact h.calls this
  have ENt := Lib.hid (fun (t : ByteArray) (h : t.data.toList = 49 :: List.replicate N 48) => str_zeros h)
  have EMt := Lib.hid (fun (t : ByteArray) (h : t.data.toList = 49 :: List.replicate M 48) => str_zeros h)
  have H0 := Lib.hid (BxAt.start w)
  clear hz hs q1 q2 q3 q4 q5 q6 szN szM hq eN eM
  generalize str ((10 : Int) ^ N) = tN at KM KA C1 C2 ENt
  generalize str ((10 : Int) ^ M) = tM at KM KD KA C1 C2 EMt
  have KC1 := Lib.hid C1
  have KC2 := Lib.hid C2
  clear C1 C2
  go_enter Tryz.func5, Tryz.ntmps5
  go_wp2_with (first
    | (go_at_call 11; with_reducible refine (S0.out).mono ?_; rintro e w1 ⟨rfl, hb⟩; have H1 := Lib.hid (H0.out.below hb); clear hb)
    | (go_at_call 18; with_reducible refine (p1.out _).mono ?_; rintro e w' ⟨rfl, rfl⟩)
    | (go_at_call 18; with_reducible refine (p2.out _).mono ?_; rintro e w' ⟨rfl, rfl⟩)
    | fail)
  go_loop [6, 7] (fun s i => ∃ (j : Nat) (t : ByteArray), j ≤ N ∧ i = .int .i64 j ∧ s = .string t ∧ t.size = j + 1 ∧ t.data.toList = 49 :: List.replicate j 48) (fun _ i => N - (intOf i).toNat)
  case atStart => exact ⟨0, ⟨#[49]⟩, Nat.zero_le _, rfl, rfl, rfl, rfl⟩
  case round =>
    obtain ⟨j, t, hj, rfl, rfl, hts, ht⟩ := hrel
    have HT := Lib.hid ht
    clear ht
    by_cases hlt : j < N
    · go_wp2
      refine ⟨⟨j + 1, _, by omega, by go_num, rfl, ?_, ?_⟩, by simp only [intOf]; omega⟩
      · rw [ba_size, ba_append, HT.out]; simp
      · rw [ba_append, HT.out, List.replicate_succ']; rfl
    · have hjN : N = j := by omega
      subst hjN
      have ht' : tN = t := (ENt.out t HT.out).symm
      subst ht'
      clear hts HT hlt hj
      go_wp2
      go_loop [8, 9] (fun s i => ∃ (j : Nat) (t : ByteArray), j ≤ M ∧ i = .int .i64 j ∧ s = .string t ∧ t.size = j + 1 ∧ t.data.toList = 49 :: List.replicate j 48) (fun _ i => M - (intOf i).toNat)
      case atStart => exact ⟨0, ⟨#[49]⟩, Nat.zero_le _, rfl, rfl, rfl, rfl⟩
      case round =>
        obtain ⟨j, t, hj, rfl, rfl, hts, ht⟩ := hrel
        have HT := Lib.hid ht
        clear ht
        by_cases hlt : j < M
        · go_wp2
          refine ⟨⟨j + 1, _, by omega, by go_num, rfl, ?_, ?_⟩, by simp only [intOf]; omega⟩
          · rw [ba_size, ba_append, HT.out]; simp
          · rw [ba_append, HT.out, List.replicate_succ']; rfl
        · have hjN : M = j := by omega
          subst hjN
          have ht' : tM = t := (EMt.out t HT.out).symm
          subst ht'
          clear hts HT hlt hj
          go_wp2_with (first
            | (go_at_call 24; with_reducible refine (KI.out _ _ _ _ H1.out).mono ?_; rintro e w2 ⟨rfl, h2⟩; have H2 := Lib.hid (h2.push tN ⟨#[49]⟩ 23); clear h2)
            | (go_at_call 24; with_reducible refine (KI.out _ _ _ _ H2.out).mono ?_; rintro e w3 ⟨rfl, h3⟩; have H3 := Lib.hid (h3.push tM ⟨#[49]⟩ 23); have r2 := h3.row (w2.heap.size, tN, ⟨#[49]⟩) (by simp); obtain ⟨r20, r21, _⟩ := r2; clear h3)
            | (go_at_call 25; with_reducible refine (KM.out _ _ H3.out).mono ?_; rintro e w4 ⟨rfl, h4⟩; have H4 := Lib.hid (h4.push zN zD 23); clear h4)
            | fail)
          go_cut [14, 15] from 21 (fun v14 v15 wX => ∃ X, v14 = .pointer (some ⟨X, 0, none⟩) ∧ v15 = .int .i64 0 ∧ BxAt ((X, ⟨#[49]⟩, tM) :: [(w4.heap.size, zN, zD), (w3.heap.size, tM, ⟨#[49]⟩), (w2.heap.size, tN, ⟨#[49]⟩)]) w wX)
          case first =>
            go_region_held3 (fun W => W.cell? ⟨w3.heap.size, 0, none⟩ = some (.string tM) ∧ W.cell? ⟨w3.heap.size, 1, none⟩ = some (.string ⟨#[49]⟩)) (first | exact ⟨((H6.out.set2 H5.out rfl _ _).row (w3.heap.size, tM, ⟨#[49]⟩) (by simp)).1, ((H6.out.set2 H5.out rfl _ _).row (w3.heap.size, tM, ⟨#[49]⟩) (by simp)).2.1⟩ | exact ⟨((H6.out.set2 H4.out (by simp) _ _).row (w3.heap.size, tM, ⟨#[49]⟩) (by simp)).1, ((H6.out.set2 H4.out (by simp) _ _).row (w3.heap.size, tM, ⟨#[49]⟩) (by simp)).2.1⟩ | exact ⟨(H6.out.row (w3.heap.size, tM, ⟨#[49]⟩) (by simp)).1, (H6.out.row (w3.heap.size, tM, ⟨#[49]⟩) (by simp)).2.1⟩ | exact ⟨((H6.out.al _).row (w3.heap.size, tM, ⟨#[49]⟩) (by simp)).1, ((H6.out.al _).row (w3.heap.size, tM, ⟨#[49]⟩) (by simp)).2.1⟩ | exact ⟨(H5.out.row (w3.heap.size, tM, ⟨#[49]⟩) (by simp)).1, (H5.out.row (w3.heap.size, tM, ⟨#[49]⟩) (by simp)).2.1⟩ | exact ⟨((H5.out.al _).row (w3.heap.size, tM, ⟨#[49]⟩) (by simp)).1, ((H5.out.al _).row (w3.heap.size, tM, ⟨#[49]⟩) (by simp)).2.1⟩ | exact ⟨(H4.out.row (w3.heap.size, tM, ⟨#[49]⟩) (by simp)).1, (H4.out.row (w3.heap.size, tM, ⟨#[49]⟩) (by simp)).2.1⟩ | exact ⟨((H4.out.al _).row (w3.heap.size, tM, ⟨#[49]⟩) (by simp)).1, ((H4.out.al _).row (w3.heap.size, tM, ⟨#[49]⟩) (by simp)).2.1⟩) (first
              | (go_at_call 24; refine (is_b _ _ _).mono ?_; rintro e w5 ⟨rfl, hb5⟩; obtain ⟨bc5, bf5⟩ := bcell hb5; have H5 := Lib.hid (BxAt.below (by first | exact H4.out.drew | exact (H4.out.drew).al _ | exact (H4.out.al _).drew) hb5); (first | (with_reducible have hz := zero_at hb5; obtain ⟨za0, za1, za2, za3, za4⟩ := hz; (try simp at za0 za1 za2 za3 za4)) | (with_reducible have hz := zero_at_drew hb5; obtain ⟨za0, za1, za2, za3, za4⟩ := hz; (try simp at za0 za1 za2 za3 za4)) | (with_reducible have hz := zero_at_drew2 hb5; obtain ⟨za0, za1, za2, za3, za4⟩ := hz; (try simp at za0 za1 za2 za3 za4)) | skip); clear hb5 bc5 bf5)
              | (go_at_call 26; refine (KD.out _ (by first | exact H5.out.bw | exact (H5.out.al _).bw)).mono ?_; rintro e w6 ⟨rfl, hb6⟩; obtain ⟨bc6, bf6⟩ := bcell hb6; have H6 := Lib.hid (BxAt.below (by first | exact H5.out | exact H5.out.al _) hb6); (first | (with_reducible have hz := kept_at5 za0 za1 za2 za3 za4 hb6; obtain ⟨zb0, zb1, zb2, zb3, zb4⟩ := hz) | (with_reducible have hz := zero_at hb6; obtain ⟨zb0, zb1, zb2, zb3, zb4⟩ := hz; (try simp at zb0 zb1 zb2 zb3 zb4)) | skip); clear hb6 bc6 bf6))
            all_goals
              go_wp2
              go_meet
              exact ⟨_, rfl, rfl, by first | exact H6.out.push _ _ _ | exact H6.out.put H5.out rfl zb0 zb1 zb4 _ _ | exact H6.out.put H4.out (by simp) zb0 zb1 zb4 _ _⟩
          case rest =>
            obtain ⟨X, rfl, rfl, hX⟩ := hcut
            have H6 := Lib.hid hX
            obtain ⟨x0, x1, _⟩ := hX.row (w2.heap.size, tN, ⟨#[49]⟩) (by simp)
            obtain ⟨s0, s1, _⟩ := hX.row (X, ⟨#[49]⟩, tM) (by simp)
            clear hX H4 H3 H2 KI KM KD p1 p2 S0 H1 H0
            have hcs : (N = 0 ∧ N < M) ∨ (0 < N ∧ N < M) ∨ (N = 0 ∧ M = 0) ∨ (0 < N ∧ N = M) ∨ (0 < N ∧ M < N) := by omega
            have k1 := KC1.out
            have k2 := KC2.out
            clear KC1 KC2
            rcases hF with ⟨rfl, rfl⟩ | ⟨rfl, rfl, rfl, rfl⟩ <;> rcases hcs with ⟨c1, c2⟩ | ⟨c1, c2⟩ | ⟨c1, c2⟩ | ⟨c1, c2⟩ | ⟨c1, c2⟩
            · have v1 : (if N < M then (-1 : Int) else if M < N then 1 else 0) = -1 := by rw [if_pos c2]
              have v2 : (if N = 0 ∧ M = 0 then (0 : Int) else 1) = 1 := by rw [if_neg (by omega)]
              simp only [v1] at k1
              simp only [v2] at k2
              have K1 := Lib.hid k1
              have K2 := Lib.hid k2
              have hN0 : ((N : Int) == 0) = true := by rw [beq_iff_eq]; omega
              have hM0 : ((M : Int) == 0) = false := by rw [beq_eq_false_iff_ne]; omega
              skip
              skip
              clear k1 k2 v1 v2 c1
              go_wp2_with (first
                | (go_at_call 27; with_reducible refine (KA.out _ _ H6.out).mono ?_; rintro e w7 ⟨rfl, h7⟩; have hp := h7.push sN sD 23; obtain ⟨x70, x71, _⟩ := hp.row (w2.heap.size, tN, ⟨#[49]⟩) (by simp); obtain ⟨y70, y71, _⟩ := hp.row (w3.heap.size, tM, ⟨#[49]⟩) (by simp); obtain ⟨s70, s71, _⟩ := hp.row (X, ⟨#[49]⟩, tM) (by simp); obtain ⟨z70, z71, _⟩ := hp.row (w4.heap.size, zN, zD) (by simp); have H7 := Lib.hid hp; clear h7 hp)
                | (go_at_call 23; with_reducible refine (K1.out _ _ H7.out).mono ?_; rintro e w8 ⟨rfl, hp⟩; obtain ⟨x80, x81, _⟩ := hp.row (w2.heap.size, tN, ⟨#[49]⟩) (by simp); obtain ⟨y80, y81, _⟩ := hp.row (w3.heap.size, tM, ⟨#[49]⟩) (by simp); obtain ⟨s80, s81, _⟩ := hp.row (X, ⟨#[49]⟩, tM) (by simp); obtain ⟨z80, z81, _⟩ := hp.row (w4.heap.size, zN, zD) (by simp); have H8 := Lib.hid hp; clear hp)
                | (go_at_call 23; with_reducible refine (K2.out _ _ H8.out).mono ?_; rintro e w9 ⟨rfl, hp⟩; have H9 := Lib.hid hp; clear hp)
                | fail)
              go_ret
              exact ⟨rfl, H9.out.bw⟩
            · have v1 : (if N < M then (-1 : Int) else if M < N then 1 else 0) = -1 := by rw [if_pos c2]
              have v2 : (if N = 0 ∧ M = 0 then (0 : Int) else 1) = 1 := by rw [if_neg (by omega)]
              simp only [v1] at k1
              simp only [v2] at k2
              have K1 := Lib.hid k1
              have K2 := Lib.hid k2
              have hN0 : ((N : Int) == 0) = false := by rw [beq_eq_false_iff_ne]; omega
              have hM0 : ((M : Int) == 0) = false := by rw [beq_eq_false_iff_ne]; omega
              skip
              skip
              clear k1 k2 v1 v2 c1
              go_wp2_with (first
                | (go_at_call 27; with_reducible refine (KA.out _ _ H6.out).mono ?_; rintro e w7 ⟨rfl, h7⟩; have hp := h7.push sN sD 23; obtain ⟨x70, x71, _⟩ := hp.row (w2.heap.size, tN, ⟨#[49]⟩) (by simp); obtain ⟨y70, y71, _⟩ := hp.row (w3.heap.size, tM, ⟨#[49]⟩) (by simp); obtain ⟨s70, s71, _⟩ := hp.row (X, ⟨#[49]⟩, tM) (by simp); obtain ⟨z70, z71, _⟩ := hp.row (w4.heap.size, zN, zD) (by simp); have H7 := Lib.hid hp; clear h7 hp)
                | (go_at_call 23; with_reducible refine (K1.out _ _ H7.out).mono ?_; rintro e w8 ⟨rfl, hp⟩; obtain ⟨x80, x81, _⟩ := hp.row (w2.heap.size, tN, ⟨#[49]⟩) (by simp); obtain ⟨y80, y81, _⟩ := hp.row (w3.heap.size, tM, ⟨#[49]⟩) (by simp); obtain ⟨s80, s81, _⟩ := hp.row (X, ⟨#[49]⟩, tM) (by simp); obtain ⟨z80, z81, _⟩ := hp.row (w4.heap.size, zN, zD) (by simp); have H8 := Lib.hid hp; clear hp)
                | (go_at_call 23; with_reducible refine (K2.out _ _ H8.out).mono ?_; rintro e w9 ⟨rfl, hp⟩; have H9 := Lib.hid hp; clear hp)
                | fail)
              go_ret
              exact ⟨rfl, H9.out.bw⟩
            · have v1 : (if N < M then (-1 : Int) else if M < N then 1 else 0) = 0 := by rw [if_neg (by omega), if_neg (by omega)]
              have v2 : (if N = 0 ∧ M = 0 then (0 : Int) else 1) = 0 := by rw [if_pos (by omega)]
              simp only [v1] at k1
              simp only [v2] at k2
              have K1 := Lib.hid k1
              have K2 := Lib.hid k2
              have hN0 : ((N : Int) == 0) = true := by rw [beq_iff_eq]; omega
              have hM0 : ((M : Int) == 0) = true := by rw [beq_iff_eq]; omega
              have c3 : ¬ N < M ∧ ¬ M < N := by omega
              obtain ⟨c3, c4⟩ := c3
              clear k1 k2 v1 v2 c1 c2
              go_wp2_with (first
                | (go_at_call 27; with_reducible refine (KA.out _ _ H6.out).mono ?_; rintro e w7 ⟨rfl, h7⟩; have hp := h7.push sN sD 23; obtain ⟨x70, x71, _⟩ := hp.row (w2.heap.size, tN, ⟨#[49]⟩) (by simp); obtain ⟨y70, y71, _⟩ := hp.row (w3.heap.size, tM, ⟨#[49]⟩) (by simp); obtain ⟨s70, s71, _⟩ := hp.row (X, ⟨#[49]⟩, tM) (by simp); obtain ⟨z70, z71, _⟩ := hp.row (w4.heap.size, zN, zD) (by simp); have H7 := Lib.hid hp; clear h7 hp)
                | (go_at_call 23; with_reducible refine (K1.out _ _ H7.out).mono ?_; rintro e w8 ⟨rfl, hp⟩; obtain ⟨x80, x81, _⟩ := hp.row (w2.heap.size, tN, ⟨#[49]⟩) (by simp); obtain ⟨y80, y81, _⟩ := hp.row (w3.heap.size, tM, ⟨#[49]⟩) (by simp); obtain ⟨s80, s81, _⟩ := hp.row (X, ⟨#[49]⟩, tM) (by simp); obtain ⟨z80, z81, _⟩ := hp.row (w4.heap.size, zN, zD) (by simp); have H8 := Lib.hid hp; clear hp)
                | (go_at_call 23; with_reducible refine (K2.out _ _ H8.out).mono ?_; rintro e w9 ⟨rfl, hp⟩; have H9 := Lib.hid hp; clear hp)
                | fail)
              go_ret
              exact ⟨rfl, H9.out.bw⟩
            · have v1 : (if N < M then (-1 : Int) else if M < N then 1 else 0) = 0 := by rw [if_neg (by omega), if_neg (by omega)]
              have v2 : (if N = 0 ∧ M = 0 then (0 : Int) else 1) = 1 := by rw [if_neg (by omega)]
              simp only [v1] at k1
              simp only [v2] at k2
              have K1 := Lib.hid k1
              have K2 := Lib.hid k2
              have hN0 : ((N : Int) == 0) = false := by rw [beq_eq_false_iff_ne]; omega
              have hM0 : ((M : Int) == 0) = false := by rw [beq_eq_false_iff_ne]; omega
              have c3 : ¬ N < M ∧ ¬ M < N := by omega
              obtain ⟨c3, c4⟩ := c3
              clear k1 k2 v1 v2 c1 c2
              go_wp2_with (first
                | (go_at_call 27; with_reducible refine (KA.out _ _ H6.out).mono ?_; rintro e w7 ⟨rfl, h7⟩; have hp := h7.push sN sD 23; obtain ⟨x70, x71, _⟩ := hp.row (w2.heap.size, tN, ⟨#[49]⟩) (by simp); obtain ⟨y70, y71, _⟩ := hp.row (w3.heap.size, tM, ⟨#[49]⟩) (by simp); obtain ⟨s70, s71, _⟩ := hp.row (X, ⟨#[49]⟩, tM) (by simp); obtain ⟨z70, z71, _⟩ := hp.row (w4.heap.size, zN, zD) (by simp); have H7 := Lib.hid hp; clear h7 hp)
                | (go_at_call 23; with_reducible refine (K1.out _ _ H7.out).mono ?_; rintro e w8 ⟨rfl, hp⟩; obtain ⟨x80, x81, _⟩ := hp.row (w2.heap.size, tN, ⟨#[49]⟩) (by simp); obtain ⟨y80, y81, _⟩ := hp.row (w3.heap.size, tM, ⟨#[49]⟩) (by simp); obtain ⟨s80, s81, _⟩ := hp.row (X, ⟨#[49]⟩, tM) (by simp); obtain ⟨z80, z81, _⟩ := hp.row (w4.heap.size, zN, zD) (by simp); have H8 := Lib.hid hp; clear hp)
                | (go_at_call 23; with_reducible refine (K2.out _ _ H8.out).mono ?_; rintro e w9 ⟨rfl, hp⟩; have H9 := Lib.hid hp; clear hp)
                | fail)
              go_ret
              exact ⟨rfl, H9.out.bw⟩
            · have v1 : (if N < M then (-1 : Int) else if M < N then 1 else 0) = 1 := by rw [if_neg (by omega), if_pos c2]
              have v2 : (if N = 0 ∧ M = 0 then (0 : Int) else 1) = 1 := by rw [if_neg (by omega)]
              simp only [v1] at k1
              simp only [v2] at k2
              have K1 := Lib.hid k1
              have K2 := Lib.hid k2
              have hN0 : ((N : Int) == 0) = false := by rw [beq_eq_false_iff_ne]; omega
              skip
              skip
              skip
              clear k1 k2 v1 v2 c1
              go_wp2_with (first
                | (go_at_call 27; with_reducible refine (KA.out _ _ H6.out).mono ?_; rintro e w7 ⟨rfl, h7⟩; have hp := h7.push sN sD 23; obtain ⟨x70, x71, _⟩ := hp.row (w2.heap.size, tN, ⟨#[49]⟩) (by simp); obtain ⟨y70, y71, _⟩ := hp.row (w3.heap.size, tM, ⟨#[49]⟩) (by simp); obtain ⟨s70, s71, _⟩ := hp.row (X, ⟨#[49]⟩, tM) (by simp); obtain ⟨z70, z71, _⟩ := hp.row (w4.heap.size, zN, zD) (by simp); have H7 := Lib.hid hp; clear h7 hp)
                | (go_at_call 23; with_reducible refine (K1.out _ _ H7.out).mono ?_; rintro e w8 ⟨rfl, hp⟩; obtain ⟨x80, x81, _⟩ := hp.row (w2.heap.size, tN, ⟨#[49]⟩) (by simp); obtain ⟨y80, y81, _⟩ := hp.row (w3.heap.size, tM, ⟨#[49]⟩) (by simp); obtain ⟨s80, s81, _⟩ := hp.row (X, ⟨#[49]⟩, tM) (by simp); obtain ⟨z80, z81, _⟩ := hp.row (w4.heap.size, zN, zD) (by simp); have H8 := Lib.hid hp; clear hp)
                | (go_at_call 23; with_reducible refine (K2.out _ _ H8.out).mono ?_; rintro e w9 ⟨rfl, hp⟩; have H9 := Lib.hid hp; clear hp)
                | fail)
              go_ret
              exact ⟨rfl, H9.out.bw⟩
            · have v1 : (if N < M then (-1 : Int) else if M < N then 1 else 0) = -1 := by rw [if_pos c2]
              have v2 : (if N = 0 ∧ M = 0 then (0 : Int) else 1) = 1 := by rw [if_neg (by omega)]
              simp only [v1] at k1
              simp only [v2] at k2
              have K1 := Lib.hid k1
              have K2 := Lib.hid k2
              have hN0 : ((N : Int) == 0) = true := by rw [beq_iff_eq]; omega
              have hM0 : ((M : Int) == 0) = false := by rw [beq_eq_false_iff_ne]; omega
              skip
              skip
              clear k1 k2 v1 v2 c1
              go_wp2_with (first
                | (go_at_call 27; with_reducible refine (KA.out _ _ H6.out).mono ?_; rintro e w7 ⟨rfl, h7⟩; have hp := h7.push sN sD 23; obtain ⟨x70, x71, _⟩ := hp.row (w2.heap.size, tN, ⟨#[49]⟩) (by simp); obtain ⟨y70, y71, _⟩ := hp.row (w3.heap.size, tM, ⟨#[49]⟩) (by simp); obtain ⟨s70, s71, _⟩ := hp.row (X, ⟨#[49]⟩, tM) (by simp); obtain ⟨z70, z71, _⟩ := hp.row (w4.heap.size, ⟨#[]⟩, ⟨#[]⟩) (by simp); have H7 := Lib.hid hp; clear h7 hp)
                | (go_at_call 23; with_reducible refine (K1.out _ _ H7.out).mono ?_; rintro e w8 ⟨rfl, hp⟩; obtain ⟨x80, x81, _⟩ := hp.row (w2.heap.size, tN, ⟨#[49]⟩) (by simp); obtain ⟨y80, y81, _⟩ := hp.row (w3.heap.size, tM, ⟨#[49]⟩) (by simp); obtain ⟨s80, s81, _⟩ := hp.row (X, ⟨#[49]⟩, tM) (by simp); obtain ⟨z80, z81, _⟩ := hp.row (w4.heap.size, ⟨#[]⟩, ⟨#[]⟩) (by simp); have H8 := Lib.hid hp; clear hp)
                | (go_at_call 23; with_reducible refine (K2.out _ _ H8.out).mono ?_; rintro e w9 ⟨rfl, hp⟩; have H9 := Lib.hid hp; clear hp)
                | fail)
              go_ret
              exact ⟨rfl, H9.out.bw⟩
            · have v1 : (if N < M then (-1 : Int) else if M < N then 1 else 0) = -1 := by rw [if_pos c2]
              have v2 : (if N = 0 ∧ M = 0 then (0 : Int) else 1) = 1 := by rw [if_neg (by omega)]
              simp only [v1] at k1
              simp only [v2] at k2
              have K1 := Lib.hid k1
              have K2 := Lib.hid k2
              have hN0 : ((N : Int) == 0) = false := by rw [beq_eq_false_iff_ne]; omega
              have hM0 : ((M : Int) == 0) = false := by rw [beq_eq_false_iff_ne]; omega
              skip
              skip
              clear k1 k2 v1 v2 c1
              go_wp2_with (first
                | (go_at_call 27; with_reducible refine (KA.out _ _ H6.out).mono ?_; rintro e w7 ⟨rfl, h7⟩; have hp := h7.push sN sD 23; obtain ⟨x70, x71, _⟩ := hp.row (w2.heap.size, tN, ⟨#[49]⟩) (by simp); obtain ⟨y70, y71, _⟩ := hp.row (w3.heap.size, tM, ⟨#[49]⟩) (by simp); obtain ⟨s70, s71, _⟩ := hp.row (X, ⟨#[49]⟩, tM) (by simp); obtain ⟨z70, z71, _⟩ := hp.row (w4.heap.size, ⟨#[]⟩, ⟨#[]⟩) (by simp); have H7 := Lib.hid hp; clear h7 hp)
                | (go_at_call 23; with_reducible refine (K1.out _ _ H7.out).mono ?_; rintro e w8 ⟨rfl, hp⟩; obtain ⟨x80, x81, _⟩ := hp.row (w2.heap.size, tN, ⟨#[49]⟩) (by simp); obtain ⟨y80, y81, _⟩ := hp.row (w3.heap.size, tM, ⟨#[49]⟩) (by simp); obtain ⟨s80, s81, _⟩ := hp.row (X, ⟨#[49]⟩, tM) (by simp); obtain ⟨z80, z81, _⟩ := hp.row (w4.heap.size, ⟨#[]⟩, ⟨#[]⟩) (by simp); have H8 := Lib.hid hp; clear hp)
                | (go_at_call 23; with_reducible refine (K2.out _ _ H8.out).mono ?_; rintro e w9 ⟨rfl, hp⟩; have H9 := Lib.hid hp; clear hp)
                | fail)
              go_ret
              exact ⟨rfl, H9.out.bw⟩
            · have v1 : (if N < M then (-1 : Int) else if M < N then 1 else 0) = 0 := by rw [if_neg (by omega), if_neg (by omega)]
              have v2 : (if N = 0 ∧ M = 0 then (0 : Int) else 1) = 0 := by rw [if_pos (by omega)]
              simp only [v1] at k1
              simp only [v2] at k2
              have K1 := Lib.hid k1
              have K2 := Lib.hid k2
              have hN0 : ((N : Int) == 0) = true := by rw [beq_iff_eq]; omega
              have hM0 : ((M : Int) == 0) = true := by rw [beq_iff_eq]; omega
              have c3 : ¬ N < M ∧ ¬ M < N := by omega
              obtain ⟨c3, c4⟩ := c3
              clear k1 k2 v1 v2 c1 c2
              go_wp2_with (first
                | (go_at_call 27; with_reducible refine (KA.out _ _ H6.out).mono ?_; rintro e w7 ⟨rfl, h7⟩; have hp := h7.push sN sD 23; obtain ⟨x70, x71, _⟩ := hp.row (w2.heap.size, tN, ⟨#[49]⟩) (by simp); obtain ⟨y70, y71, _⟩ := hp.row (w3.heap.size, tM, ⟨#[49]⟩) (by simp); obtain ⟨s70, s71, _⟩ := hp.row (X, ⟨#[49]⟩, tM) (by simp); obtain ⟨z70, z71, _⟩ := hp.row (w4.heap.size, ⟨#[]⟩, ⟨#[]⟩) (by simp); have H7 := Lib.hid hp; clear h7 hp)
                | (go_at_call 23; with_reducible refine (K1.out _ _ H7.out).mono ?_; rintro e w8 ⟨rfl, hp⟩; obtain ⟨x80, x81, _⟩ := hp.row (w2.heap.size, tN, ⟨#[49]⟩) (by simp); obtain ⟨y80, y81, _⟩ := hp.row (w3.heap.size, tM, ⟨#[49]⟩) (by simp); obtain ⟨s80, s81, _⟩ := hp.row (X, ⟨#[49]⟩, tM) (by simp); obtain ⟨z80, z81, _⟩ := hp.row (w4.heap.size, ⟨#[]⟩, ⟨#[]⟩) (by simp); have H8 := Lib.hid hp; clear hp)
                | (go_at_call 23; with_reducible refine (K2.out _ _ H8.out).mono ?_; rintro e w9 ⟨rfl, hp⟩; have H9 := Lib.hid hp; clear hp)
                | fail)
              go_ret
              exact ⟨rfl, H9.out.bw⟩
            · have v1 : (if N < M then (-1 : Int) else if M < N then 1 else 0) = 0 := by rw [if_neg (by omega), if_neg (by omega)]
              have v2 : (if N = 0 ∧ M = 0 then (0 : Int) else 1) = 1 := by rw [if_neg (by omega)]
              simp only [v1] at k1
              simp only [v2] at k2
              have K1 := Lib.hid k1
              have K2 := Lib.hid k2
              have hN0 : ((N : Int) == 0) = false := by rw [beq_eq_false_iff_ne]; omega
              have hM0 : ((M : Int) == 0) = false := by rw [beq_eq_false_iff_ne]; omega
              have c3 : ¬ N < M ∧ ¬ M < N := by omega
              obtain ⟨c3, c4⟩ := c3
              clear k1 k2 v1 v2 c1 c2
              go_wp2_with (first
                | (go_at_call 27; with_reducible refine (KA.out _ _ H6.out).mono ?_; rintro e w7 ⟨rfl, h7⟩; have hp := h7.push sN sD 23; obtain ⟨x70, x71, _⟩ := hp.row (w2.heap.size, tN, ⟨#[49]⟩) (by simp); obtain ⟨y70, y71, _⟩ := hp.row (w3.heap.size, tM, ⟨#[49]⟩) (by simp); obtain ⟨s70, s71, _⟩ := hp.row (X, ⟨#[49]⟩, tM) (by simp); obtain ⟨z70, z71, _⟩ := hp.row (w4.heap.size, ⟨#[]⟩, ⟨#[]⟩) (by simp); have H7 := Lib.hid hp; clear h7 hp)
                | (go_at_call 23; with_reducible refine (K1.out _ _ H7.out).mono ?_; rintro e w8 ⟨rfl, hp⟩; obtain ⟨x80, x81, _⟩ := hp.row (w2.heap.size, tN, ⟨#[49]⟩) (by simp); obtain ⟨y80, y81, _⟩ := hp.row (w3.heap.size, tM, ⟨#[49]⟩) (by simp); obtain ⟨s80, s81, _⟩ := hp.row (X, ⟨#[49]⟩, tM) (by simp); obtain ⟨z80, z81, _⟩ := hp.row (w4.heap.size, ⟨#[]⟩, ⟨#[]⟩) (by simp); have H8 := Lib.hid hp; clear hp)
                | (go_at_call 23; with_reducible refine (K2.out _ _ H8.out).mono ?_; rintro e w9 ⟨rfl, hp⟩; have H9 := Lib.hid hp; clear hp)
                | fail)
              go_ret
              exact ⟨rfl, H9.out.bw⟩
            · have v1 : (if N < M then (-1 : Int) else if M < N then 1 else 0) = 1 := by rw [if_neg (by omega), if_pos c2]
              have v2 : (if N = 0 ∧ M = 0 then (0 : Int) else 1) = 1 := by rw [if_neg (by omega)]
              simp only [v1] at k1
              simp only [v2] at k2
              have K1 := Lib.hid k1
              have K2 := Lib.hid k2
              have hN0 : ((N : Int) == 0) = false := by rw [beq_eq_false_iff_ne]; omega
              skip
              skip
              skip
              clear k1 k2 v1 v2 c1
              go_wp2_with (first
                | (go_at_call 27; with_reducible refine (KA.out _ _ H6.out).mono ?_; rintro e w7 ⟨rfl, h7⟩; have hp := h7.push sN sD 23; obtain ⟨x70, x71, _⟩ := hp.row (w2.heap.size, tN, ⟨#[49]⟩) (by simp); obtain ⟨y70, y71, _⟩ := hp.row (w3.heap.size, tM, ⟨#[49]⟩) (by simp); obtain ⟨s70, s71, _⟩ := hp.row (X, ⟨#[49]⟩, tM) (by simp); obtain ⟨z70, z71, _⟩ := hp.row (w4.heap.size, ⟨#[]⟩, ⟨#[]⟩) (by simp); have H7 := Lib.hid hp; clear h7 hp)
                | (go_at_call 23; with_reducible refine (K1.out _ _ H7.out).mono ?_; rintro e w8 ⟨rfl, hp⟩; obtain ⟨x80, x81, _⟩ := hp.row (w2.heap.size, tN, ⟨#[49]⟩) (by simp); obtain ⟨y80, y81, _⟩ := hp.row (w3.heap.size, tM, ⟨#[49]⟩) (by simp); obtain ⟨s80, s81, _⟩ := hp.row (X, ⟨#[49]⟩, tM) (by simp); obtain ⟨z80, z81, _⟩ := hp.row (w4.heap.size, ⟨#[]⟩, ⟨#[]⟩) (by simp); have H8 := Lib.hid hp; clear hp)
                | (go_at_call 23; with_reducible refine (K2.out _ _ H8.out).mono ?_; rintro e w9 ⟨rfl, hp⟩; have H9 := Lib.hid hp; clear hp)
                | fail)
              go_ret
              exact ⟨rfl, H9.out.bw⟩

theorem RationalLimits_law (n m : Int) (hn : -9223372036854775808 ≤ n ∧ n ≤ 9223372036854775807) (hm : -9223372036854775808 ≤ m ∧ m ≤ 9223372036854775807) (w : World) (hq : QOps w) :
    Calls Tryz.prog 5 #[.int .i64 n, .int .i64 m] w fun e W' => e = .returned (.bool true) ∧ Below w.heap.size w W' := by
  have hN : pickN n 200 < 200 := pickN_lt _ (by decide)
  have hM : pickN m 200 < 200 := pickN_lt _ (by decide)
  by_cases h : pickN n 200 + pickN m 200 < 200
  · exact Limits_w n m hn.1 hn.2 hm.1 hm.2 hq _ _ rfl rfl _ _ _ _ _ _ 0 true (.inl ⟨rfl, rfl⟩) (decide_eq_true (by omega)) ((lim_mul hN hM).trans (if_pos h)) ((lim_add hN hM).trans (if_pos h)) rfl rfl rfl rfl rfl rfl
  · exact Limits_w n m hn.1 hn.2 hm.1 hm.2 hq _ _ rfl rfl _ _ _ _ _ _ 40 false (.inr ⟨rfl, rfl, rfl, rfl⟩) (decide_eq_false (by omega)) ((lim_mul hN hM).trans (if_neg h)) ((lim_add hN hM).trans (if_neg h)) rfl rfl rfl rfl rfl rfl
end Go.Proofs.YtkekafamfoifmaaGreatDoor
