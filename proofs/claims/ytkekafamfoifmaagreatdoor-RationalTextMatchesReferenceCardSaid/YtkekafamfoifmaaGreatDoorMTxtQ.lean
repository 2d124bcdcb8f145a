/-
  The law RationalTextMatchesReference: Print and Parse answer as their reference implementation; a fraction is read from its text, and what is read has the text that was read.
-/
import Derived.Test.YtkekafamfoifmaaGreatDoorZPrs
import Derived.Test.YtkekafamfoifmaaGreatDoorZTxtQP
import Derived.Test.YtkekafamfoifmaaGreatDoorZLng
import Derived.Test.YtkekafamfoifmaaGreatDoorZSane
import Derived.Test.YtkekafamfoifmaaGreatDoorZPk
import Derived.Deep.CutBlock
namespace Go.Proofs.YtkekafamfoifmaaGreatDoor
open Go.RowKit Go.Shelf
attribute [local go_sem] Oper.semAt_some

theorem two_at {B : Nat} {a b c d : ByteArray} {W : World} (h : ArAt B [.string a, .string b, .string c, .string d] W) (za : Sz a) (zb : Sz b) (zc : Sz c) (zd : Sz d) {k : Nat} (hk : k < 2) :
    ∃ n m, Sz n ∧ Sz m ∧ W.cell? ⟨B, k * 2, none⟩ = some (.string n) ∧ W.cell? ⟨B, k * 2 + 1, none⟩ = some (.string m) := by
  rcases k with _ | _ | k
  · exact ⟨a, b, za, zb, h.row 0 _ rfl, h.row 1 _ rfl⟩
  · exact ⟨c, d, zc, zd, h.row 2 _ rfl, h.row 3 _ rfl⟩
  · omega
theorem one_at {B : Nat} {a b : ByteArray} {W : World} (h : ArAt B [.string a, .string b] W) (za : a.size ≤ 1000) (zb : b.size ≤ 1000) {k : Nat} (hk : k < 2) :
    ∃ n, n.size ≤ 1000 ∧ W.cell? ⟨B, k, none⟩ = some (.string n) := by
  rcases k with _ | _ | k
  · exact ⟨a, za, h.row 0 _ rfl⟩
  · exact ⟨b, zb, h.row 1 _ rfl⟩
  · omega
theorem cut420 (s : ByteArray) : (s.extract 0 (min (s.size : Int) 420).toNat).size ≤ 1000 := by
  rw [ByteArray.size_extract]
  omega
theorem mid_size {s : ByteArray} {k : Nat} (c : UInt8) (hk : k < s.size) (zs : s.size ≤ 1000) : (s.extract 0 k ++ (⟨#[c]⟩ : ByteArray) ++ s.extract (k + 1) s.size).size ≤ 1000 := by
  rw [ByteArray.size_append, ByteArray.size_append, ByteArray.size_extract, ByteArray.size_extract]
  show min k s.size - 0 + 1 + (min s.size s.size - (k + 1)) ≤ 1000
  omega
theorem AzAt.two_on {w v : World} (h : AzAt [] w v) (o : Obj) (l : List Value) (t : TypeId) : AzAt [(v.heap.size + 1, l)] w ((v.alloc o).alloc (.cells l.toArray t)).drew := by
  have hp := ((h.al o).push l t).drew
  simp only [World.size_alloc] at hp
  exact hp
theorem byte_any (c : Int) (h0 : 0 ≤ c) (h1 : c ≤ 255) : ∀ W : World, (convert 35 9 (.slice (some ⟨W.heap.size, 0, none⟩) 1 1)).run Tryz.prog (W.alloc (.cells #[.int .u8 c] 5)).drew = .ok (.string ⟨#[UInt8.ofNat c.toNat]⟩) (W.alloc (.cells #[.int .u8 c] 5)).drew := fun W => one_string W.drew c h0 (by omega)
theorem ne_list {s : ByteArray} (h : 0 < s.size) : (s.toList == []) = false := list_ne (ne_nil_of h)
/-- What Print and Parse answer of two texts. -/
theorem prn_facts (n d : ByteArray) : ∃ (s tn td : ByteArray) (e : Int), printS n d = s ∧ s.size ≤ 1000 ∧ qN (parseO s) = tn ∧ qD (parseO s) = td ∧ qE (parseO s) = e ∧ ((vR n d = true ∧ (s.toList == []) = false ∧ n = tn ∧ d = td ∧ e = 0) ∨ (vR n d = false ∧ s = ⟨#[]⟩ ∧ e = 40)) := by
  refine ⟨_, _, _, _, rfl, ?_, rfl, rfl, rfl, ?_⟩
  · cases h : ratO n d with
    | none => rw [print_none h]; exact Nat.zero_le _
    | some r => exact (parse_print h).2.2
  · cases h : ratO n d with
    | none =>
      right
      rw [print_none h, parse_nil]
      exact ⟨by unfold vR; rw [h]; rfl, rfl, rfl⟩
    | some r =>
      left
      obtain ⟨h1, h2, h3⟩ := parse_print h
      obtain ⟨e1, e2, _⟩ := ratO_some h
      rw [h1]
      exact ⟨vR_true h, ne_list h2, e1, e2, rfl⟩

set_option maxRecDepth 100000 in
set_option maxHeartbeats 16000000 in
theorem RationalText_law (x1 x2 : ByteArray) (l0 l1 l2 l3 p c : Int) (raw : ByteArray) (z1 : x1.size ≤ maxLen) (z2 : x2.size ≤ maxLen) (hl0 : -9223372036854775808 ≤ l0 ∧ l0 ≤ 9223372036854775807) (hl1 : -9223372036854775808 ≤ l1 ∧ l1 ≤ 9223372036854775807) (hl2 : -9223372036854775808 ≤ l2 ∧ l2 ≤ 9223372036854775807) (hl3 : -9223372036854775808 ≤ l3 ∧ l3 ≤ 9223372036854775807) (hp : -9223372036854775808 ≤ p ∧ p ≤ 9223372036854775807) (hc : 0 ≤ c ∧ c ≤ 255) (zr : raw.size ≤ maxLen) (w : World) (hq : QOps w) :
    Calls Tryz.prog 3 #[.agg #[.string x1, .string x2], .agg #[.int .i64 l0, .int .i64 l1, .int .i64 l2, .int .i64 l3], .int .i64 p, .int .u8 c, .string raw] w fun e W' => e = .returned (.bool true) ∧ Below w.heap.size w W' := by
  unfold maxLen at z1 z2 zr
  have KS := Lib.hid (fun (W : World) (h : Below w.heap.size w W) => sane_q (hq.below h))
  have KL := Lib.hid (fun (W : World) => Long_f l0 l1 l2 l3 hl0.1 hl0.2 hl1.1 hl1.2 hl2.1 hl2.2 hl3.1 hl3.2 W)
  have KC := Lib.hid (fun (W : World) => cut_l x1 x2 z1 z2 W)
  have H0 := Lib.hid (((AzAt.start w).push [.string x1, .string x2] 23).push [.int .i64 l0, .int .i64 l1, .int .i64 l2, .int .i64 l3] 24)
  have HQ := Lib.hid hq
  have HP := Lib.hid hp
  have HCC := Lib.hid hc
  clear hq z1 z2 hp hc hl0 hl1 hl2 hl3
  have hr1 : min (raw.size : Int) 420 ≤ raw.size := by omega
  have hr2 : 0 ≤ min (raw.size : Int) 420 := by omega
  go_enter Tryz.func3, Tryz.ntmps3
  go_wp2_with (first
    | (go_at_call 11; with_reducible refine (KS.out _ H0.out.bw).mono ?_; rintro e w1 ⟨rfl, hb⟩; have hp := H0.out.below hb; simp only [World.size_alloc] at hp; have q1 := (hp.row (w.heap.size + 1, [.int .i64 l0, .int .i64 l1, .int .i64 l2, .int .i64 l3]) (by simp)).row 0 _ rfl; have q2 := (hp.row (w.heap.size + 1, [.int .i64 l0, .int .i64 l1, .int .i64 l2, .int .i64 l3]) (by simp)).row 1 _ rfl; have q3 := (hp.row (w.heap.size + 1, [.int .i64 l0, .int .i64 l1, .int .i64 l2, .int .i64 l3]) (by simp)).row 2 _ rfl; have q4 := (hp.row (w.heap.size + 1, [.int .i64 l0, .int .i64 l1, .int .i64 l2, .int .i64 l3]) (by simp)).row 3 _ rfl; have H1 := Lib.hid hp; clear hb hp)
    | (go_at_call 12; with_reducible refine (KL.out _).mono ?_; rintro e w2 ⟨⟨r, hr, rfl⟩, hb⟩; have hp := (H1.out.below hb).push [.string (str r.num), .string (str (r.den : Int))] 23; have q5 := (hp.row (w.heap.size, [.string x1, .string x2]) (by simp)).row 0 _ rfl; have q6 := (hp.row (w.heap.size, [.string x1, .string x2]) (by simp)).row 1 _ rfl; have q7 := (hp.row (w2.heap.size, [.string (str r.num), .string (str (r.den : Int))]) (by simp)).row 0 _ rfl; have q8 := (hp.row (w2.heap.size, [.string (str r.num), .string (str (r.den : Int))]) (by simp)).row 1 _ rfl; have H2 := Lib.hid hp; have HR := Lib.hid hr; clear hb hr hp)
    | fail)
  clear KS KL
  obtain ⟨u1, e1⟩ : ∃ u, u = cutS x1 210 := ⟨_, rfl⟩
  obtain ⟨u2, e2⟩ : ∃ u, u = cutS x2 210 := ⟨_, rfl⟩
  rw [← e1, ← e2] at KC
  have ZU := Lib.hid (show Sz u1 ∧ Sz u2 from ⟨by rw [e1]; exact cutS_sz _, by rw [e2]; exact cutS_sz _⟩)
  clear e1 e2
  go_region_held3 (fun W => W.cell? ⟨w.heap.size, 0, none⟩ = some (.string x1) ∧ W.cell? ⟨w.heap.size, 1, none⟩ = some (.string x2) ∧ W.cell? ⟨w2.heap.size, 0, none⟩ = some (.string (str r.num)) ∧ W.cell? ⟨w2.heap.size, 1, none⟩ = some (.string (str (r.den : Int)))) (first | exact ⟨((H3.out.al _).row (w.heap.size, [.string x1, .string x2]) (by simp)).row 0 _ rfl, ((H3.out.al _).row (w.heap.size, [.string x1, .string x2]) (by simp)).row 1 _ rfl, ((H3.out.al _).row (w2.heap.size, [.string (str r.num), .string (str (r.den : Int))]) (by simp)).row 0 _ rfl, ((H3.out.al _).row (w2.heap.size, [.string (str r.num), .string (str (r.den : Int))]) (by simp)).row 1 _ rfl⟩ | exact ⟨(H3.out.row (w.heap.size, [.string x1, .string x2]) (by simp)).row 0 _ rfl, (H3.out.row (w.heap.size, [.string x1, .string x2]) (by simp)).row 1 _ rfl, (H3.out.row (w2.heap.size, [.string (str r.num), .string (str (r.den : Int))]) (by simp)).row 0 _ rfl, (H3.out.row (w2.heap.size, [.string (str r.num), .string (str (r.den : Int))]) (by simp)).row 1 _ rfl⟩ | exact ⟨(H2.out.drew.row (w.heap.size, [.string x1, .string x2]) (by simp)).row 0 _ rfl, (H2.out.drew.row (w.heap.size, [.string x1, .string x2]) (by simp)).row 1 _ rfl, (H2.out.drew.row (w2.heap.size, [.string (str r.num), .string (str (r.den : Int))]) (by simp)).row 0 _ rfl, (H2.out.drew.row (w2.heap.size, [.string (str r.num), .string (str (r.den : Int))]) (by simp)).row 1 _ rfl⟩) (first
    | (go_at_call 13; refine (KC.out _).mono ?_; rintro e w3 ⟨rfl, hb⟩; have H3 := Lib.hid (H2.out.drew.below hb); clear hb)
    | fail)
  have H4 := Lib.hid (((H3.out.push [.string u1, .string u2, .string (str r.num), .string (str (r.den : Int))] 23)).sub (L' := [(w3.heap.size, [.string u1, .string u2, .string (str r.num), .string (str (r.den : Int))]), (w2.heap.size, [.string (str r.num), .string (str (r.den : Int))])]) (by simp))
  obtain ⟨B, hB⟩ : ∃ B, B = w3.heap.size := ⟨_, rfl⟩
  rw [← hB] at H4 ⊢
  have ZR := Lib.hid HR.out.fits
  clear H0 H1 H2 H3 HR hB KC
  go_wp2
  go_loopw [34] (fun i wr => ∃ k : Nat, k ≤ 2 ∧ i = .int .i64 (k : Int) ∧ AzAt [(B, [.string u1, .string u2, .string (str r.num), .string (str (r.den : Int))]), (w2.heap.size, [.string (str r.num), .string (str (r.den : Int))])] w wr) (fun i _ => 2 - (intOf i).toNat)
  case atStart => exact ⟨0, by omega, rfl, H4.out⟩
  case round =>
    obtain ⟨k, hk, rfl, hA⟩ := hrel
    by_cases hk2 : k < 2
    · obtain ⟨n, d, zn, zd, c0, c1⟩ := two_at (hA.row (B, [.string u1, .string u2, .string (str r.num), .string (str (r.den : Int))]) (by simp)) ZU.out.1 ZU.out.2 (str_fit ZR.out.1) (str_fit ZR.out.2) hk2
      obtain ⟨s, tn, td, e0, es, zs, e1, e2, e3, hf⟩ := prn_facts n d
      have K1 := Lib.hid (fun (W : World) (h : Below w.heap.size w W) => Print_q (HQ.out.below h).io zn zd)
      have K2 := Lib.hid (fun (W : World) (h : Below w.heap.size w W) => Parse_q (HQ.out.below h).io (HQ.out.below h).gm zs)
      have K3 := Lib.hid (fun (W : World) => Print_f zn zd W)
      have K4 := Lib.hid (fun (W : World) (h : Below w.heap.size w W) => Valid_q zn zd (HQ.out.below h).io)
      rw [es] at K1 K3
      rw [e1, e2, e3] at K2
      have HA := Lib.hid hA
      clear hA es zs e1 e2 e3 zn zd H4
      generalize vR n d = vv at K4 hf
      rcases hf with ⟨rfl, g1, g2, g3, rfl⟩ | ⟨rfl, g1, rfl⟩
      · subst g2 g3
        go_wp2_with (first
          | (go_at_call 14; with_reducible refine (K1.out _ (HA.out.push [.string n, .string d] 23).bw).mono ?_; rintro e v1 ⟨rfl, hb⟩; have hp := (HA.out.push [.string n, .string d] 23).below hb; have q9 := (hp.row (wr.heap.size, [.string n, .string d]) (by simp)).row 0 _ rfl; have q10 := (hp.row (wr.heap.size, [.string n, .string d]) (by simp)).row 1 _ rfl; have A1 := Lib.hid hp; clear hb hp)
          | (go_at_call 15; with_reducible refine (K2.out _ A1.out.bw).mono ?_; rintro e v2 ⟨rfl, hb⟩; have hp := (A1.out.below hb).push [.string n, .string d] 23; have q11 := (hp.row (wr.heap.size, [.string n, .string d]) (by simp)).row 0 _ rfl; have q12 := (hp.row (wr.heap.size, [.string n, .string d]) (by simp)).row 1 _ rfl; have A2 := Lib.hid hp; clear hb hp)
          | (go_at_call 16; with_reducible refine (K3.out _).mono ?_; rintro e v3 ⟨rfl, hb⟩; have hp := A2.out.below hb; have q13 := (hp.row (wr.heap.size, [.string n, .string d]) (by simp)).row 0 _ rfl; have q14 := (hp.row (wr.heap.size, [.string n, .string d]) (by simp)).row 1 _ rfl; have q15 := (hp.row (v2.heap.size, [.string n, .string d]) (by simp)).row 0 _ rfl; have q16 := (hp.row (v2.heap.size, [.string n, .string d]) (by simp)).row 1 _ rfl; have A3 := Lib.hid hp; clear hb hp)
          | (have _ := A4; go_at_call 17; with_reducible refine (K4.out _ A4.out.bw).mono ?_; rintro e v5 ⟨rfl, hb⟩; have hp := A4.out.below hb; have A5 := Lib.hid hp; clear hb hp)
          | (go_at_call 17; with_reducible refine (K4.out _ A3.out.bw).mono ?_; rintro e v4 ⟨rfl, hb⟩; have hp := A3.out.below hb; have q17 := (hp.row (wr.heap.size, [.string n, .string d]) (by simp)).row 0 _ rfl; have q18 := (hp.row (wr.heap.size, [.string n, .string d]) (by simp)).row 1 _ rfl; have q19 := (hp.row (v2.heap.size, [.string n, .string d]) (by simp)).row 0 _ rfl; have q20 := (hp.row (v2.heap.size, [.string n, .string d]) (by simp)).row 1 _ rfl; have A4 := Lib.hid hp; clear hb hp)
          | fail)
        exact ⟨⟨k + 1, by omega, by go_num, A5.out.sub (by simp)⟩, by simp only [intOf]; omega⟩
      · subst g1
        go_wp2_with (first
          | (go_at_call 14; with_reducible refine (K1.out _ (HA.out.push [.string n, .string d] 23).bw).mono ?_; rintro e v1 ⟨rfl, hb⟩; have hp := (HA.out.push [.string n, .string d] 23).below hb; have q21 := (hp.row (wr.heap.size, [.string n, .string d]) (by simp)).row 0 _ rfl; have q22 := (hp.row (wr.heap.size, [.string n, .string d]) (by simp)).row 1 _ rfl; have A1 := Lib.hid hp; clear hb hp)
          | (go_at_call 15; with_reducible refine (K2.out _ A1.out.bw).mono ?_; rintro e v2 ⟨rfl, hb⟩; have hp := (A1.out.below hb).push [.string tn, .string td] 23; have q23 := (hp.row (wr.heap.size, [.string n, .string d]) (by simp)).row 0 _ rfl; have q24 := (hp.row (wr.heap.size, [.string n, .string d]) (by simp)).row 1 _ rfl; have A2 := Lib.hid hp; clear hb hp)
          | (go_at_call 16; with_reducible refine (K3.out _).mono ?_; rintro e v3 ⟨rfl, hb⟩; have hp := A2.out.below hb; have q25 := (hp.row (wr.heap.size, [.string n, .string d]) (by simp)).row 0 _ rfl; have q26 := (hp.row (wr.heap.size, [.string n, .string d]) (by simp)).row 1 _ rfl; have q27 := (hp.row (v2.heap.size, [.string tn, .string td]) (by simp)).row 0 _ rfl; have q28 := (hp.row (v2.heap.size, [.string tn, .string td]) (by simp)).row 1 _ rfl; have A3 := Lib.hid hp; clear hb hp)
          | (have _ := A4; go_at_call 17; with_reducible refine (K4.out _ A4.out.bw).mono ?_; rintro e v5 ⟨rfl, hb⟩; have hp := A4.out.below hb; have A5 := Lib.hid hp; clear hb hp)
          | (go_at_call 17; with_reducible refine (K4.out _ A3.out.bw).mono ?_; rintro e v4 ⟨rfl, hb⟩; have hp := A3.out.below hb; have q29 := (hp.row (wr.heap.size, [.string n, .string d]) (by simp)).row 0 _ rfl; have q30 := (hp.row (wr.heap.size, [.string n, .string d]) (by simp)).row 1 _ rfl; have q31 := (hp.row (v2.heap.size, [.string tn, .string td]) (by simp)).row 0 _ rfl; have q32 := (hp.row (v2.heap.size, [.string tn, .string td]) (by simp)).row 1 _ rfl; have A4 := Lib.hid hp; clear hb hp)
          | fail)
        exact ⟨⟨k + 1, by omega, by go_num, A5.out.sub (by simp)⟩, by simp only [intOf]; omega⟩
    · obtain rfl : k = 2 := by omega
      have q901 := (hA.row (w2.heap.size, [.string (str r.num), .string (str (r.den : Int))]) (by simp)).row 0 _ rfl
      have q902 := (hA.row (w2.heap.size, [.string (str r.num), .string (str (r.den : Int))]) (by simp)).row 1 _ rfl
      have HA := Lib.hid (hA.sub (L' := []) (by simp))
      clear hA hk hk2 H4
      obtain ⟨s, hs, z0, zs⟩ : ∃ s, printS (str r.num) (str (r.den : Int)) = s ∧ 0 < s.size ∧ s.size ≤ 1000 := ⟨_, rfl, (parse_print (ratO_str ZR.out)).2.1, (parse_print (ratO_str ZR.out)).2.2⟩
      have K1 := Lib.hid (fun (W : World) => Print_f (str_fit ZR.out.1) (str_fit ZR.out.2) W)
      rw [hs] at K1
      have g1 := ne_list z0
      have K2 := Lib.hid (fun (W : World) => pick_l p s.size HP.out.1 HP.out.2 z0 (by omega) W)
      have hk := pickN_lt p z0
      generalize pickN p s.size = k at K2 hk
      clear hs
      have c1 := byte_any c HCC.out.1 HCC.out.2
      go_wp2_with (first
        | (go_at_call 16; with_reducible refine (K1.out _).mono ?_; rintro e v1 ⟨rfl, hb⟩; have A1 := Lib.hid (HA.out.below hb); clear hb)
        | (go_at_call 18; with_reducible refine (K2.out _).mono ?_; rintro e v2 ⟨rfl, rfl⟩)
        | fail)
      go_cut [94, 95, 96] from 77 to 93 (fun v94 v95 v96 wX => ∃ (B : Nat) (t1 t2 : ByteArray), t1.size ≤ 1000 ∧ t2.size ≤ 1000 ∧ v94 = .slice (some ⟨B, 0, none⟩) 2 2 ∧ v95 = .int .i64 2 ∧ v96 = .int .i64 0 ∧ AzAt [(B, [.string t1, .string t2])] w wX)
      case first =>
        go_region
        all_goals
          go_wp2
          go_meet
          exact ⟨v1.heap.size + 1, _, _, cut420 raw, mid_size _ hk zs, rfl, rfl, rfl, A1.out.two_on _ _ _⟩
      case rest =>
        obtain ⟨B, t1, t2, y1, y2, rfl, rfl, rfl, hX⟩ := hcut
        have HX := Lib.hid hX
        clear hX HA A1 K1 K2 q901 q902 c1 g1 hk z0 zs
        go_wp2
        go_loopw [96] (fun i wr => ∃ k : Nat, k ≤ 2 ∧ i = .int .i64 (k : Int) ∧ AzAt [(B, [.string t1, .string t2])] w wr) (fun i _ => 2 - (intOf i).toNat)
        case atStart => exact ⟨0, by omega, rfl, HX.out⟩
        case round =>
          obtain ⟨k, hk, rfl, hA⟩ := hrel
          by_cases hk2 : k < 2
          · obtain ⟨x, zx, c0⟩ := one_at (hA.row (B, [.string t1, .string t2]) (by simp)) y1 y2 hk2
            obtain ⟨rn, rd, re, e1, e2, e3⟩ : ∃ rn rd re, qN (parseO x) = rn ∧ qD (parseO x) = rd ∧ qE (parseO x) = re := ⟨_, _, _, rfl, rfl, rfl⟩
            have zn := qN_sz _ (parse_FO x)
            have zd := qD_sz _ (parse_FO x)
            have hf := parse_text x
            have K1 := Lib.hid (fun (W : World) (h : Below w.heap.size w W) => Parse_q (HQ.out.below h).io (HQ.out.below h).gm zx)
            have K2 := Lib.hid (fun (W : World) => Parse_f zx W)
            have K3 := Lib.hid (fun (W : World) (h : Below w.heap.size w W) => Print_q (HQ.out.below h).io zn zd)
            rw [e1, e2, e3] at K1 K2
            rw [e1, e2] at K3 hf
            rw [e3] at hf
            have HA := Lib.hid hA
            clear hA zn zd e1 e2 e3 HX
            rcases hf with rfl | ⟨rfl, hf⟩
            · clear K3
              go_wp2_with (first
                | (go_at_call 15; with_reducible refine (K1.out _ HA.out.bw).mono ?_; rintro e v1 ⟨rfl, hb⟩; have A1 := Lib.hid ((HA.out.below hb).push [.string rn, .string rd] 23); clear hb)
                | (go_at_call 19; with_reducible refine (K2.out _).mono ?_; rintro e v2 ⟨rfl, hb⟩; have hp := (A1.out.below hb).push [.string rn, .string rd] 23; have q91 := (hp.row (v1.heap.size, [.string rn, .string rd]) (by simp)).row 0 _ rfl; have q92 := (hp.row (v1.heap.size, [.string rn, .string rd]) (by simp)).row 1 _ rfl; have A2 := Lib.hid hp; clear hb hp)
                | fail)
              exact ⟨⟨k + 1, by omega, by go_num, A2.out.sub (by simp)⟩, by simp only [intOf]; omega⟩
            · rw [hf] at K3
              clear hf
              go_wp2_with (first
                | (go_at_call 15; with_reducible refine (K1.out _ HA.out.bw).mono ?_; rintro e v1 ⟨rfl, hb⟩; have A1 := Lib.hid ((HA.out.below hb).push [.string rn, .string rd] 23); clear hb)
                | (go_at_call 19; with_reducible refine (K2.out _).mono ?_; rintro e v2 ⟨rfl, hb⟩; have hp := (A1.out.below hb).push [.string rn, .string rd] 23; have q91 := (hp.row (v1.heap.size, [.string rn, .string rd]) (by simp)).row 0 _ rfl; have q92 := (hp.row (v1.heap.size, [.string rn, .string rd]) (by simp)).row 1 _ rfl; have A2 := Lib.hid hp; clear hb hp)
                | (go_at_call 14; with_reducible refine (K3.out _ A2.out.bw).mono ?_; rintro e v3 ⟨rfl, hb⟩; have A3 := Lib.hid (A2.out.below hb); clear hb)
                | fail)
              exact ⟨⟨k + 1, by omega, by go_num, A3.out.sub (by simp)⟩, by simp only [intOf]; omega⟩
          · obtain rfl : k = 2 := by omega
            have HA := Lib.hid hA.bw
            clear hA HX
            go_wp2
            go_ret
            exact ⟨rfl, HA.out⟩
end Go.Proofs.YtkekafamfoifmaaGreatDoor
