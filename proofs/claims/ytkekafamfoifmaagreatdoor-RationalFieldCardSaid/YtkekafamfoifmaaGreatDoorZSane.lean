/-
  What sane answers.
-/
import Derived.BigQuiet
import Derived.Sort.CutIn
import Derived.Test.YtkekafamfoifmaaGreatDoorZPrs
import Derived.Test.YtkekafamfoifmaaGreatDoorZRCmp
namespace Go.Proofs.YtkekafamfoifmaaGreatDoor
open Go.RowKit Go.Shelf
attribute [local go_sem] Oper.semAt_some

theorem sane_f1 : qN (makeR 6 (-4)) = ⟨#[45, 51]⟩ ∧ qD (makeR 6 (-4)) = ⟨#[50]⟩ ∧ qE (makeR 6 (-4)) = 0 := by decide +kernel
theorem sane_f2 : qN (makeR 0 (-5)) = ⟨#[48]⟩ ∧ qD (makeR 0 (-5)) = ⟨#[49]⟩ ∧ qE (makeR 0 (-5)) = 0 := by decide +kernel
theorem sane_f3 : qN (makeR 1 0) = ⟨#[]⟩ ∧ qD (makeR 1 0) = ⟨#[]⟩ ∧ qE (makeR 1 0) = 40 := by decide +kernel
theorem sane_f4 : qN (op2 addR ⟨#[49]⟩ ⟨#[50]⟩ ⟨#[49]⟩ ⟨#[51]⟩) = ⟨#[53]⟩ ∧ qD (op2 addR ⟨#[49]⟩ ⟨#[50]⟩ ⟨#[49]⟩ ⟨#[51]⟩) = ⟨#[54]⟩ ∧ qE (op2 addR ⟨#[49]⟩ ⟨#[50]⟩ ⟨#[49]⟩ ⟨#[51]⟩) = 0 := by decide +kernel
theorem sane_f5 : qN (op2 divR ⟨#[49]⟩ ⟨#[50]⟩ ⟨#[45, 49]⟩ ⟨#[52]⟩) = ⟨#[45, 50]⟩ ∧ qD (op2 divR ⟨#[49]⟩ ⟨#[50]⟩ ⟨#[45, 49]⟩ ⟨#[52]⟩) = ⟨#[49]⟩ ∧ qE (op2 divR ⟨#[49]⟩ ⟨#[50]⟩ ⟨#[45, 49]⟩ ⟨#[52]⟩) = 0 := by decide +kernel
theorem sane_f6 : qN (op2 divR ⟨#[49]⟩ ⟨#[49]⟩ ⟨#[48]⟩ ⟨#[49]⟩) = ⟨#[]⟩ ∧ qD (op2 divR ⟨#[49]⟩ ⟨#[49]⟩ ⟨#[48]⟩ ⟨#[49]⟩) = ⟨#[]⟩ ∧ qE (op2 divR ⟨#[49]⟩ ⟨#[49]⟩ ⟨#[48]⟩ ⟨#[49]⟩) = 40 := by decide +kernel
theorem sane_f7 : qN (gridS downR ⟨#[45, 49]⟩ ⟨#[51]⟩ 2) = ⟨#[45, 49, 55]⟩ ∧ qD (gridS downR ⟨#[45, 49]⟩ ⟨#[51]⟩ 2) = ⟨#[53, 48]⟩ ∧ qE (gridS downR ⟨#[45, 49]⟩ ⟨#[51]⟩ 2) = 0 := by decide +kernel
theorem sane_f8 : qN (gridS upR ⟨#[49]⟩ ⟨#[51]⟩ 2) = ⟨#[49, 55]⟩ ∧ qD (gridS upR ⟨#[49]⟩ ⟨#[51]⟩ 2) = ⟨#[53, 48]⟩ ∧ qE (gridS upR ⟨#[49]⟩ ⟨#[51]⟩ 2) = 0 := by decide +kernel
theorem sane_f9 : qN (parseO ⟨#[45, 51, 47, 50]⟩) = ⟨#[45, 51]⟩ ∧ qD (parseO ⟨#[45, 51, 47, 50]⟩) = ⟨#[50]⟩ ∧ qE (parseO ⟨#[45, 51, 47, 50]⟩) = 0 := by decide +kernel
theorem sane_f10 : qN (parseO ⟨#[54, 47, 52]⟩) = ⟨#[]⟩ ∧ qD (parseO ⟨#[54, 47, 52]⟩) = ⟨#[]⟩ ∧ qE (parseO ⟨#[54, 47, 52]⟩) = 40 := by decide +kernel
theorem sane_p : printS ⟨#[45, 51]⟩ ⟨#[50]⟩ = ⟨#[45, 51, 47, 50]⟩ := by decide +kernel
theorem sane_v : vR ⟨#[45, 51]⟩ ⟨#[50]⟩ = true ∧ vR ⟨#[]⟩ ⟨#[]⟩ = false := by decide +kernel
theorem sane_c : ∃ a b, ratO ⟨#[49]⟩ ⟨#[51]⟩ = some a ∧ ratO ⟨#[51, 51, 51, 51, 51]⟩ ⟨#[49, 48, 48, 48, 48, 48]⟩ = some b ∧ cmpR a b = 1 := ⟨Rat.divInt 1 3, Rat.divInt 33333 100000, by decide +kernel, by decide +kernel, by decide +kernel⟩

theorem sz_small {s : ByteArray} (h : s.size ≤ 1000) : Sz s := by unfold Sz; omega
set_option maxRecDepth 100000 in
set_option maxHeartbeats 8000000 in
theorem sane_q {w : World} (hq : QOps w) : Calls Tryz.prog 11 #[] w fun e W' => e = .returned (.bool true) ∧ Below w.heap.size w W' := by
  have zz : ∀ {s : ByteArray}, s.size ≤ 1000 → Sz s := fun h => sz_small h
  have KI := Lib.hid (fun (n d : ByteArray) (L : List (Nat × ByteArray × ByteArray)) (W : World) (h : BxAt L w W) => h.calls (is_b n d W))
  have K1 := Lib.hid (fun (L : List (Nat × ByteArray × ByteArray)) (W : World) (h : BxAt L w W) => by have := Of_q (n := 6) (d := -4) (hq.below h.bw).io (hq.below h.bw).fr (by decide) (by decide) (by decide) (by decide); obtain ⟨e1, e2, e3⟩ := sane_f1; rw [e1, e2, e3] at this; exact h.calls this)
  have K2 := Lib.hid (fun (L : List (Nat × ByteArray × ByteArray)) (W : World) (h : BxAt L w W) => by have := Of_q (n := 0) (d := -5) (hq.below h.bw).io (hq.below h.bw).fr (by decide) (by decide) (by decide) (by decide); obtain ⟨e1, e2, e3⟩ := sane_f2; rw [e1, e2, e3] at this; exact h.calls this)
  have K3 := Lib.hid (fun (L : List (Nat × ByteArray × ByteArray)) (W : World) (h : BxAt L w W) => by have := Of_q (n := 1) (d := 0) (hq.below h.bw).io (hq.below h.bw).fr (by decide) (by decide) (by decide) (by decide); obtain ⟨e1, e2, e3⟩ := sane_f3; rw [e1, e2, e3] at this; exact h.calls this)
  have K4 := Lib.hid (fun (L : List (Nat × ByteArray × ByteArray)) (W : World) (h : BxAt L w W) => by have := Add_q (a1 := ⟨#[49]⟩) (a2 := ⟨#[50]⟩) (b1 := ⟨#[49]⟩) (b2 := ⟨#[51]⟩) (hq.below h.bw).io (zz (by decide)) (zz (by decide)) (zz (by decide)) (zz (by decide)); obtain ⟨e1, e2, e3⟩ := sane_f4; rw [e1, e2, e3] at this; exact h.calls this)
  have K5 := Lib.hid (fun (L : List (Nat × ByteArray × ByteArray)) (W : World) (h : BxAt L w W) => by have := Div_q (a1 := ⟨#[49]⟩) (a2 := ⟨#[50]⟩) (b1 := ⟨#[45, 49]⟩) (b2 := ⟨#[52]⟩) (hq.below h.bw).io (zz (by decide)) (zz (by decide)) (zz (by decide)) (zz (by decide)); obtain ⟨e1, e2, e3⟩ := sane_f5; rw [e1, e2, e3] at this; exact h.calls this)
  have K6 := Lib.hid (fun (L : List (Nat × ByteArray × ByteArray)) (W : World) (h : BxAt L w W) => by have := Div_q (a1 := ⟨#[49]⟩) (a2 := ⟨#[49]⟩) (b1 := ⟨#[48]⟩) (b2 := ⟨#[49]⟩) (hq.below h.bw).io (zz (by decide)) (zz (by decide)) (zz (by decide)) (zz (by decide)); obtain ⟨e1, e2, e3⟩ := sane_f6; rw [e1, e2, e3] at this; exact h.calls this)
  have K7 := Lib.hid (fun (L : List (Nat × ByteArray × ByteArray)) (W : World) (h : BxAt L w W) => by have := Down_q (a1 := ⟨#[45, 49]⟩) (a2 := ⟨#[51]⟩) (k := 2) (hq.below h.bw).io (zz (by decide)) (zz (by decide)) (by decide) (by decide); obtain ⟨e1, e2, e3⟩ := sane_f7; rw [e1, e2, e3] at this; exact h.calls this)
  have K8 := Lib.hid (fun (L : List (Nat × ByteArray × ByteArray)) (W : World) (h : BxAt L w W) => by have := Up_q (a1 := ⟨#[49]⟩) (a2 := ⟨#[51]⟩) (k := 2) (hq.below h.bw).io (zz (by decide)) (zz (by decide)) (by decide) (by decide); obtain ⟨e1, e2, e3⟩ := sane_f8; rw [e1, e2, e3] at this; exact h.calls this)
  have K9 := Lib.hid (fun (L : List (Nat × ByteArray × ByteArray)) (W : World) (h : BxAt L w W) => by have := Parse_q (s := ⟨#[45, 51, 47, 50]⟩) (hq.below h.bw).io (hq.below h.bw).gm (by decide); obtain ⟨e1, e2, e3⟩ := sane_f9; rw [e1, e2, e3] at this; exact h.calls this)
  have K10 := Lib.hid (fun (L : List (Nat × ByteArray × ByteArray)) (W : World) (h : BxAt L w W) => by have := Parse_q (s := ⟨#[54, 47, 52]⟩) (hq.below h.bw).io (hq.below h.bw).gm (by decide); obtain ⟨e1, e2, e3⟩ := sane_f10; rw [e1, e2, e3] at this; exact h.calls this)
  have K11 := Lib.hid (fun (L : List (Nat × ByteArray × ByteArray)) (W : World) (h : BxAt L w W) => by have := Print_q (n := ⟨#[45, 51]⟩) (d := ⟨#[50]⟩) (hq.below h.bw).io (zz (by decide)) (zz (by decide)); rw [sane_p] at this; exact h.calls this)
  have K12 := Lib.hid (fun (L : List (Nat × ByteArray × ByteArray)) (W : World) (h : BxAt L w W) => by obtain ⟨a, b, e1, e2, e3⟩ := sane_c; have := Compare_some (hq.below h.bw).io e1 e2; rw [e3] at this; exact h.calls this)
  have K13 := Lib.hid (fun (L : List (Nat × ByteArray × ByteArray)) (W : World) (h : BxAt L w W) => by have := Valid_q (n := ⟨#[45, 51]⟩) (d := ⟨#[50]⟩) (zz (by decide)) (zz (by decide)) (hq.below h.bw).io; rw [sane_v.1] at this; exact h.calls this)
  have K14 := Lib.hid (fun (L : List (Nat × ByteArray × ByteArray)) (W : World) (h : BxAt L w W) => by have := Valid_q (n := ⟨#[]⟩) (d := ⟨#[]⟩) (zz (by decide)) (zz (by decide)) (hq.below h.bw).io; rw [sane_v.2] at this; exact h.calls this)
  have H0 := Lib.hid (BxAt.start w)
  have K6R := Lib.hid (fun (W : World) (h : Below w.heap.size w W) => by have := Div_q (a1 := ⟨#[49]⟩) (a2 := ⟨#[49]⟩) (b1 := ⟨#[48]⟩) (b2 := ⟨#[49]⟩) (hq.below h).io (zz (by decide)) (zz (by decide)) (zz (by decide)) (zz (by decide)); obtain ⟨e1, e2, e3⟩ := sane_f6; rw [e1, e2, e3] at this; exact this)
  clear zz hq
  go_enter Tryz.func11, Tryz.ntmps11
  go_wp2_with (first
    | (go_at_call 41; with_reducible refine (K1.out _ _ H0.out).mono ?_; rintro e w1 ⟨rfl, h1⟩; have P1 := Lib.hid h1; have H1 := Lib.hid (h1.push ⟨#[45, 51]⟩ ⟨#[50]⟩ 23); clear h1)
    | (go_at_call 41; with_reducible refine (K2.out _ _ H1.out).mono ?_; rintro e w2 ⟨rfl, h2⟩; have P2 := Lib.hid h2; have H2 := Lib.hid (h2.push ⟨#[48]⟩ ⟨#[49]⟩ 23); clear h2)
    | (go_at_call 41; with_reducible refine (K3.out _ _ H2.out).mono ?_; rintro e w3 ⟨rfl, h3⟩; have P3 := Lib.hid h3; have H3 := Lib.hid (h3.push ⟨#[]⟩ ⟨#[]⟩ 23); clear h3)
    | (go_at_call 24; with_reducible refine (KI.out _ _ _ _ H3.out).mono ?_; rintro e w4 ⟨rfl, h4⟩; have H4 := Lib.hid h4; clear h4)
    | (go_at_call 24; with_reducible refine (KI.out _ _ _ _ H4.out).mono ?_; rintro e w5 ⟨rfl, h5⟩; have H5 := Lib.hid h5; clear h5)
    | (go_at_call 27; with_reducible refine (K4.out _ _ H5.out).mono ?_; rintro e w6 ⟨rfl, h6⟩; have P6 := Lib.hid h6; have H6 := Lib.hid (h6.push ⟨#[53]⟩ ⟨#[54]⟩ 23); clear h6)
    | (go_at_call 24; with_reducible refine (KI.out _ _ _ _ H6.out).mono ?_; rintro e w7 ⟨rfl, h7⟩; have H7 := Lib.hid h7; clear h7)
    | (go_at_call 24; with_reducible refine (KI.out _ _ _ _ H7.out).mono ?_; rintro e w8 ⟨rfl, h8⟩; have H8 := Lib.hid h8; clear h8)
    | (go_at_call 26; with_reducible refine (K5.out _ _ H8.out).mono ?_; rintro e w9 ⟨rfl, h9⟩; have P9 := Lib.hid h9; have H9 := Lib.hid (h9.push ⟨#[45, 50]⟩ ⟨#[49]⟩ 23); clear h9)
    | fail)
  go_cut [11, 12] from 22 (fun v11 v12 wX => (∃ X, v11 = .pointer (some ⟨X, 0, none⟩)) ∧ v12 = .int .i64 40 ∧ BxAt [(w9.heap.size, ⟨#[45, 50]⟩, ⟨#[49]⟩), (w6.heap.size, ⟨#[53]⟩, ⟨#[54]⟩), (w3.heap.size, ⟨#[]⟩, ⟨#[]⟩), (w2.heap.size, ⟨#[48]⟩, ⟨#[49]⟩), (w1.heap.size, ⟨#[45, 51]⟩, ⟨#[50]⟩)] w wX)
  case first =>
    go_region_held3 (fun W => W.cell? ⟨w2.heap.size, 0, none⟩ = some (.string ⟨#[48]⟩) ∧ W.cell? ⟨w2.heap.size, 1, none⟩ = some (.string ⟨#[49]⟩)) (first | exact ⟨((H11.out.set2 H10.out rfl _ _).row (w2.heap.size, ⟨#[48]⟩, ⟨#[49]⟩) (by simp)).1, ((H11.out.set2 H10.out rfl _ _).row (w2.heap.size, ⟨#[48]⟩, ⟨#[49]⟩) (by simp)).2.1⟩ | exact ⟨((H11.out.set2 H9.out (by simp) _ _).row (w2.heap.size, ⟨#[48]⟩, ⟨#[49]⟩) (by simp)).1, ((H11.out.set2 H9.out (by simp) _ _).row (w2.heap.size, ⟨#[48]⟩, ⟨#[49]⟩) (by simp)).2.1⟩ | exact ⟨(H11.out.row (w2.heap.size, ⟨#[48]⟩, ⟨#[49]⟩) (by simp)).1, (H11.out.row (w2.heap.size, ⟨#[48]⟩, ⟨#[49]⟩) (by simp)).2.1⟩ | exact ⟨((H11.out.al _).row (w2.heap.size, ⟨#[48]⟩, ⟨#[49]⟩) (by simp)).1, ((H11.out.al _).row (w2.heap.size, ⟨#[48]⟩, ⟨#[49]⟩) (by simp)).2.1⟩ | exact ⟨(H10.out.row (w2.heap.size, ⟨#[48]⟩, ⟨#[49]⟩) (by simp)).1, (H10.out.row (w2.heap.size, ⟨#[48]⟩, ⟨#[49]⟩) (by simp)).2.1⟩ | exact ⟨((H10.out.al _).row (w2.heap.size, ⟨#[48]⟩, ⟨#[49]⟩) (by simp)).1, ((H10.out.al _).row (w2.heap.size, ⟨#[48]⟩, ⟨#[49]⟩) (by simp)).2.1⟩ | exact ⟨(H9.out.row (w2.heap.size, ⟨#[48]⟩, ⟨#[49]⟩) (by simp)).1, (H9.out.row (w2.heap.size, ⟨#[48]⟩, ⟨#[49]⟩) (by simp)).2.1⟩ | exact ⟨((H9.out.al _).row (w2.heap.size, ⟨#[48]⟩, ⟨#[49]⟩) (by simp)).1, ((H9.out.al _).row (w2.heap.size, ⟨#[48]⟩, ⟨#[49]⟩) (by simp)).2.1⟩) (first
      | (go_at_call 24; refine (is_b _ _ _).mono ?_; rintro e w10 ⟨rfl, hb10⟩; obtain ⟨bc10, bf10⟩ := bcell hb10; have H10 := Lib.hid (BxAt.below (by first | exact H9.out.drew | exact (H9.out.drew).al _ | exact (H9.out.al _).drew) hb10); (first | (with_reducible have hz := zero_at hb10; obtain ⟨za0, za1, za2, za3, za4⟩ := hz; (try simp at za0 za1 za2 za3 za4)) | (with_reducible have hz := zero_at_drew hb10; obtain ⟨za0, za1, za2, za3, za4⟩ := hz; (try simp at za0 za1 za2 za3 za4)) | (with_reducible have hz := zero_at_drew2 hb10; obtain ⟨za0, za1, za2, za3, za4⟩ := hz; (try simp at za0 za1 za2 za3 za4)) | skip); clear hb10 bc10 bf10)
      | (go_at_call 26; refine (K6R.out _ (by first | exact H10.out.bw | exact (H10.out.al _).bw)).mono ?_; rintro e w11 ⟨rfl, hb11⟩; obtain ⟨bc11, bf11⟩ := bcell hb11; have H11 := Lib.hid (BxAt.below (by first | exact H10.out | exact H10.out.al _) hb11); (first | (with_reducible have hz := kept_at za0 za1 za2 za3 za4 hb11; obtain ⟨zb0, zb1, zb2, zb3⟩ := hz) | (with_reducible have hz := zero_at hb11; obtain ⟨zb0, zb1, zb2, zb3, zb4⟩ := hz; (try simp at zb0 zb1 zb2 zb3 zb4)) | skip); clear hb11 bc11 bf11))
    all_goals
      go_wp2
      go_meet
      exact ⟨⟨_, rfl⟩, rfl, by first | exact H11.out | exact H11.out.al _ | exact H11.out.set2 H10.out rfl _ _ | exact H11.out.set2 H9.out (by simp) _ _⟩
  case rest =>
    obtain ⟨⟨X11, rfl⟩, rfl, hX⟩ := hcut
    have H11 := Lib.hid hX
    clear hX
    go_wp2_with (first
      | (go_at_call 24; with_reducible refine (KI.out _ _ _ _ H11.out).mono ?_; rintro e w12 ⟨rfl, h12⟩; have H12 := Lib.hid h12; clear h12)
      | (go_at_call 35; with_reducible refine (K7.out _ _ H12.out).mono ?_; rintro e w13 ⟨rfl, h13⟩; have P13 := Lib.hid h13; have H13 := Lib.hid (h13.push ⟨#[45, 49, 55]⟩ ⟨#[53, 48]⟩ 23); clear h13)
      | (go_at_call 24; with_reducible refine (KI.out _ _ _ _ H13.out).mono ?_; rintro e w14 ⟨rfl, h14⟩; have H14 := Lib.hid h14; clear h14)
      | (go_at_call 37; with_reducible refine (K8.out _ _ H14.out).mono ?_; rintro e w15 ⟨rfl, h15⟩; have P15 := Lib.hid h15; have H15 := Lib.hid (h15.push ⟨#[49, 55]⟩ ⟨#[53, 48]⟩ 23); clear h15)
      | (go_at_call 15; with_reducible refine (K9.out _ _ H15.out).mono ?_; rintro e w16 ⟨rfl, h16⟩; have P16 := Lib.hid h16; have H16 := Lib.hid (h16.push ⟨#[45, 51]⟩ ⟨#[50]⟩ 23); clear h16)
      | (go_at_call 15; with_reducible refine (K10.out _ _ H16.out).mono ?_; rintro e w17 ⟨rfl, h17⟩; have P17 := Lib.hid h17; have H17 := Lib.hid (h17.push ⟨#[]⟩ ⟨#[]⟩ 23); clear h17)
      | fail)
    have KEEP := Lib.hid (fun (W : World) (h : BxAt [(w17.heap.size, ⟨#[]⟩, ⟨#[]⟩), (w16.heap.size, ⟨#[45, 51]⟩, ⟨#[50]⟩), (w15.heap.size, ⟨#[49, 55]⟩, ⟨#[53, 48]⟩), (w13.heap.size, ⟨#[45, 49, 55]⟩, ⟨#[53, 48]⟩), (w9.heap.size, ⟨#[45, 50]⟩, ⟨#[49]⟩), (w6.heap.size, ⟨#[53]⟩, ⟨#[54]⟩), (w3.heap.size, ⟨#[]⟩, ⟨#[]⟩), (w2.heap.size, ⟨#[48]⟩, ⟨#[49]⟩), (w1.heap.size, ⟨#[45, 51]⟩, ⟨#[50]⟩)] w W) => (show W.cell? ⟨w1.heap.size, 0, none⟩ = some (.string ⟨#[45, 51]⟩) ∧ W.cell? ⟨w1.heap.size, 1, none⟩ = some (.string ⟨#[50]⟩) ∧ W.cell? ⟨w2.heap.size, 0, none⟩ = some (.string ⟨#[48]⟩) ∧ W.cell? ⟨w2.heap.size, 1, none⟩ = some (.string ⟨#[49]⟩) ∧ W.cell? ⟨w6.heap.size, 0, none⟩ = some (.string ⟨#[53]⟩) ∧ W.cell? ⟨w6.heap.size, 1, none⟩ = some (.string ⟨#[54]⟩) ∧ W.cell? ⟨w9.heap.size, 0, none⟩ = some (.string ⟨#[45, 50]⟩) ∧ W.cell? ⟨w9.heap.size, 1, none⟩ = some (.string ⟨#[49]⟩) ∧ W.cell? ⟨w13.heap.size, 0, none⟩ = some (.string ⟨#[45, 49, 55]⟩) ∧ W.cell? ⟨w13.heap.size, 1, none⟩ = some (.string ⟨#[53, 48]⟩) ∧ W.cell? ⟨w15.heap.size, 0, none⟩ = some (.string ⟨#[49, 55]⟩) ∧ W.cell? ⟨w15.heap.size, 1, none⟩ = some (.string ⟨#[53, 48]⟩) ∧ W.cell? ⟨w16.heap.size, 0, none⟩ = some (.string ⟨#[45, 51]⟩) ∧ W.cell? ⟨w16.heap.size, 1, none⟩ = some (.string ⟨#[50]⟩) from ⟨(h.row (w1.heap.size, ⟨#[45, 51]⟩, ⟨#[50]⟩) (by simp)).1, (h.row (w1.heap.size, ⟨#[45, 51]⟩, ⟨#[50]⟩) (by simp)).2.1, (h.row (w2.heap.size, ⟨#[48]⟩, ⟨#[49]⟩) (by simp)).1, (h.row (w2.heap.size, ⟨#[48]⟩, ⟨#[49]⟩) (by simp)).2.1, (h.row (w6.heap.size, ⟨#[53]⟩, ⟨#[54]⟩) (by simp)).1, (h.row (w6.heap.size, ⟨#[53]⟩, ⟨#[54]⟩) (by simp)).2.1, (h.row (w9.heap.size, ⟨#[45, 50]⟩, ⟨#[49]⟩) (by simp)).1, (h.row (w9.heap.size, ⟨#[45, 50]⟩, ⟨#[49]⟩) (by simp)).2.1, (h.row (w13.heap.size, ⟨#[45, 49, 55]⟩, ⟨#[53, 48]⟩) (by simp)).1, (h.row (w13.heap.size, ⟨#[45, 49, 55]⟩, ⟨#[53, 48]⟩) (by simp)).2.1, (h.row (w15.heap.size, ⟨#[49, 55]⟩, ⟨#[53, 48]⟩) (by simp)).1, (h.row (w15.heap.size, ⟨#[49, 55]⟩, ⟨#[53, 48]⟩) (by simp)).2.1, (h.row (w16.heap.size, ⟨#[45, 51]⟩, ⟨#[50]⟩) (by simp)).1, (h.row (w16.heap.size, ⟨#[45, 51]⟩, ⟨#[50]⟩) (by simp)).2.1⟩))
    clear P1 P2 P3 P6 P9 P13 P15 P16 P17 K1 K2 K3 K4 K5 K6 K7 K8 K9 K10 K6R H11 H12 H13 H14 H15 H16
    go_region_held3 (fun W => W.cell? ⟨w1.heap.size, 0, none⟩ = some (.string ⟨#[45, 51]⟩) ∧ W.cell? ⟨w1.heap.size, 1, none⟩ = some (.string ⟨#[50]⟩) ∧ W.cell? ⟨w2.heap.size, 0, none⟩ = some (.string ⟨#[48]⟩) ∧ W.cell? ⟨w2.heap.size, 1, none⟩ = some (.string ⟨#[49]⟩) ∧ W.cell? ⟨w6.heap.size, 0, none⟩ = some (.string ⟨#[53]⟩) ∧ W.cell? ⟨w6.heap.size, 1, none⟩ = some (.string ⟨#[54]⟩) ∧ W.cell? ⟨w9.heap.size, 0, none⟩ = some (.string ⟨#[45, 50]⟩) ∧ W.cell? ⟨w9.heap.size, 1, none⟩ = some (.string ⟨#[49]⟩) ∧ W.cell? ⟨w13.heap.size, 0, none⟩ = some (.string ⟨#[45, 49, 55]⟩) ∧ W.cell? ⟨w13.heap.size, 1, none⟩ = some (.string ⟨#[53, 48]⟩) ∧ W.cell? ⟨w15.heap.size, 0, none⟩ = some (.string ⟨#[49, 55]⟩) ∧ W.cell? ⟨w15.heap.size, 1, none⟩ = some (.string ⟨#[53, 48]⟩) ∧ W.cell? ⟨w16.heap.size, 0, none⟩ = some (.string ⟨#[45, 51]⟩) ∧ W.cell? ⟨w16.heap.size, 1, none⟩ = some (.string ⟨#[50]⟩)) (first | with_reducible exact KEEP.out _ H29.out | with_reducible exact KEEP.out _ H28.out | with_reducible exact KEEP.out _ H27.out | with_reducible exact KEEP.out _ H26.out | with_reducible exact KEEP.out _ H25.out | with_reducible exact KEEP.out _ H24.out | with_reducible exact KEEP.out _ H23.out | with_reducible exact KEEP.out _ H22.out | with_reducible exact KEEP.out _ H21.out | with_reducible exact KEEP.out _ H20.out | with_reducible exact KEEP.out _ H19.out | with_reducible exact KEEP.out _ H18.out | with_reducible exact KEEP.out _ H17.out.drew | with_reducible exact KEEP.out _ H17.out | with_reducible exact KEEP.out _ (H28.out.al _)) (first
      | (have _ := H28; go_at_call 17; refine (K14.out _ _ (by first | with_reducible exact H28.out | with_reducible exact H28.out.drew)).mono ?_; rintro e w29 ⟨rfl, h29⟩; have H29 := Lib.hid h29; clear h29)
      | (have _ := H27; go_at_call 17; refine (K13.out _ _ (by first | with_reducible exact H27.out | with_reducible exact H27.out.drew)).mono ?_; rintro e w28 ⟨rfl, h28⟩; have H28 := Lib.hid h28; clear h28)
      | (have _ := H26; go_at_call 23; refine (K12.out _ _ (by first | with_reducible exact H26.out | with_reducible exact H26.out.drew)).mono ?_; rintro e w27 ⟨rfl, h27⟩; have H27 := Lib.hid h27; clear h27)
      | (have _ := H25; go_at_call 24; refine (KI.out _ _ _ _ (by first | with_reducible exact H25.out | with_reducible exact H25.out.drew)).mono ?_; rintro e w26 ⟨rfl, h26⟩; have H26 := Lib.hid h26; clear h26)
      | (have _ := H24; go_at_call 24; refine (KI.out _ _ _ _ (by first | with_reducible exact H24.out | with_reducible exact H24.out.drew)).mono ?_; rintro e w25 ⟨rfl, h25⟩; have H25 := Lib.hid h25; clear h25)
      | (have _ := H23; go_at_call 14; refine (K11.out _ _ (by first | with_reducible exact H23.out | with_reducible exact H23.out.drew)).mono ?_; rintro e w24 ⟨rfl, h24⟩; have H24 := Lib.hid h24; clear h24)
      | (have _ := H22; go_at_call 24; refine (KI.out _ _ _ _ (by first | with_reducible exact H22.out | with_reducible exact H22.out.drew)).mono ?_; rintro e w23 ⟨rfl, h23⟩; have H23 := Lib.hid h23; clear h23)
      | (have _ := H21; go_at_call 24; refine (KI.out _ _ _ _ (by first | with_reducible exact H21.out | with_reducible exact H21.out.drew)).mono ?_; rintro e w22 ⟨rfl, h22⟩; have H22 := Lib.hid h22; clear h22)
      | (have _ := H20; go_at_call 24; refine (KI.out _ _ _ _ (by first | with_reducible exact H20.out | with_reducible exact H20.out.drew)).mono ?_; rintro e w21 ⟨rfl, h21⟩; have H21 := Lib.hid h21; clear h21)
      | (have _ := H19; go_at_call 24; refine (KI.out _ _ _ _ (by first | with_reducible exact H19.out | with_reducible exact H19.out.drew)).mono ?_; rintro e w20 ⟨rfl, h20⟩; have H20 := Lib.hid h20; clear h20)
      | (have _ := H18; go_at_call 24; refine (KI.out _ _ _ _ (by first | with_reducible exact H18.out | with_reducible exact H18.out.drew)).mono ?_; rintro e w19 ⟨rfl, h19⟩; have H19 := Lib.hid h19; clear h19)
      | (have _ := H17; go_at_call 24; refine (KI.out _ _ _ _ (by first | with_reducible exact H17.out | with_reducible exact H17.out.drew)).mono ?_; rintro e w18 ⟨rfl, h18⟩; have H18 := Lib.hid h18; clear h18)
      )
    all_goals
      go_wp2
      go_ret
      exact ⟨rfl, H29.out.bw⟩
end Go.Proofs.YtkekafamfoifmaaGreatDoor

