/-
  The law's minus: the negative of a fraction.
-/
import Derived.Test.YtkekafamfoifmaaGreatDoorZPrs
import Derived.Test.YtkekafamfoifmaaGreatDoorZRat
namespace Go.Proofs.YtkekafamfoifmaaGreatDoor
open Go.RowKit Go.Shelf
attribute [local go_sem] Oper.semAt_some

theorem ArAt.drew {B : Nat} {vs : List Value} {W : World} (h : ArAt B vs W) : ArAt B vs W.drew := ⟨h.row, h.fz, h.sz⟩
/-- A fraction's box, and the result's block. -/
def MnAt (n d : ByteArray) (w W : World) : Prop := BxAt [(w.heap.size, n, d)] w W ∧ ArAt (w.heap.size + 1) [.string ⟨#[]⟩, .string ⟨#[]⟩] W
theorem MnAt.below {n d : ByteArray} {w W W' : World} (h : MnAt n d w W) (hb : Below W.heap.size W W') : MnAt n d w W' := ⟨BxAt.below h.1 hb, ArAt.below h.2 hb⟩
theorem MnAt.drew {n d : ByteArray} {w W : World} (h : MnAt n d w W) : MnAt n d w W.drew := ⟨BxAt.drew h.1, ArAt.drew h.2⟩
theorem MnAt.al {n d : ByteArray} {w W : World} (h : MnAt n d w W) (o : Obj) : MnAt n d w (W.alloc o) := ⟨BxAt.al h.1 o, ArAt.al h.2 o⟩
theorem MnAt.start (w : World) (n d : ByteArray) (t u : TypeId) : MnAt n d w ((w.alloc (.cells #[.string n, .string d] t)).alloc (.cells #[.string ⟨#[]⟩, .string ⟨#[]⟩] u)) := by
  have s := ArAt.start (w.alloc (.cells #[.string n, .string d] t)) #[.string ⟨#[]⟩, .string ⟨#[]⟩] u
  simp only [World.size_alloc] at s
  exact ⟨((BxAt.start w).push n d t).al _, s⟩
/-- The two, and the box of the answer. -/
def MnTo (X : Nat) (n d s t : ByteArray) (w W : World) : Prop := BxAt [(X, s, t), (w.heap.size, n, d)] w W ∧ ArAt (w.heap.size + 1) [.string ⟨#[]⟩, .string ⟨#[]⟩] W
theorem MnAt.push {n d : ByteArray} {w W : World} (h : MnAt n d w W) (s t : ByteArray) (u : TypeId) : MnTo W.heap.size n d s t w (W.alloc (.cells #[.string s, .string t] u)) := ⟨BxAt.push h.1 s t u, ArAt.al h.2 _⟩
theorem MnAt.put {n d : ByteArray} {w V W : World} {X : Nat} {u v : Value} (h : MnAt n d w W) (hV : MnAt n d w V) (hX : V.heap.size = X) (c0 : W.cell? ⟨X, 0, none⟩ = some u) (c1 : W.cell? ⟨X, 1, none⟩ = some v) (hs : X < W.heap.size) (s t : ByteArray) :
    MnTo X n d s t w ((W.setCell ⟨X, 0, none⟩ (.string s)).setCell ⟨X, 1, none⟩ (.string t)) := by
  have hne : X ≠ w.heap.size + 1 := by have := hV.2.sz; omega
  exact ⟨BxAt.put h.1 hV.1 hX c0 c1 hs s t, ((ArAt.other h.2 hne _ _)).other hne _ _⟩
theorem MnTo.rs {X : Nat} {n d s t : ByteArray} {w W : World} (h : MnTo X n d s t w W) : RsAt (w.heap.size + 1) w W :=
  ⟨h.1.bw, h.2.row 0 _ rfl, h.2.row 1 _ rfl, h.2.fz 0 (by simp), h.2.fz 1 (by simp), by omega, h.2.sz⟩

set_option maxRecDepth 100000 in
set_option maxHeartbeats 8000000 in
theorem minus_l {n d : ByteArray} {w : World} (hi : IOps w) (zn : Sz n) (zd : Sz d) {o : Option Rat} (ho : op2 subR ⟨#[48]⟩ ⟨#[49]⟩ n d = o) :
    Calls Tryz.prog 45 #[.agg #[.string n, .string d]] w fun e W' => e = .returned (.agg #[.string (qN o), .string (qD o)]) ∧ Below w.heap.size w W' := by
  have KD := Lib.hid (fun (W : World) (h : Below w.heap.size w W) => by have := Sub_q (hi.below h) sz_zero sz_one zn zd; rw [ho] at this; exact this)
  have H4 := Lib.hid (MnAt.start w n d 23 23)
  generalize qN o = rn at KD ⊢
  generalize qD o = rd at KD ⊢
  generalize qE o = re at KD
  clear hi zn zd ho
  go_enter Tryz.func45, Tryz.ntmps45
  go_wp2
  go_cut [3] from 4 (fun v3 wX => ∃ X, v3 = .pointer (some ⟨X, 0, none⟩) ∧ MnTo X n d rn rd w wX)
  case first =>
    go_region_held3 (fun W => W.cell? ⟨w.heap.size, 0, none⟩ = some (.string n) ∧ W.cell? ⟨w.heap.size, 1, none⟩ = some (.string d)) (first | exact ⟨((H6.out.1.set2 H5.out.1 rfl _ _).row (w.heap.size, n, d) (by simp)).1, ((H6.out.1.set2 H5.out.1 rfl _ _).row (w.heap.size, n, d) (by simp)).2.1⟩ | exact ⟨((H6.out.1.set2 H4.out.1 (by simp) _ _).row (w.heap.size, n, d) (by simp)).1, ((H6.out.1.set2 H4.out.1 (by simp) _ _).row (w.heap.size, n, d) (by simp)).2.1⟩ | exact ⟨(H6.out.1.row (w.heap.size, n, d) (by simp)).1, (H6.out.1.row (w.heap.size, n, d) (by simp)).2.1⟩ | exact ⟨((H6.out.1.al _).row (w.heap.size, n, d) (by simp)).1, ((H6.out.1.al _).row (w.heap.size, n, d) (by simp)).2.1⟩ | exact ⟨(H5.out.1.row (w.heap.size, n, d) (by simp)).1, (H5.out.1.row (w.heap.size, n, d) (by simp)).2.1⟩ | exact ⟨((H5.out.1.al _).row (w.heap.size, n, d) (by simp)).1, ((H5.out.1.al _).row (w.heap.size, n, d) (by simp)).2.1⟩ | exact ⟨(H4.out.1.row (w.heap.size, n, d) (by simp)).1, (H4.out.1.row (w.heap.size, n, d) (by simp)).2.1⟩ | exact ⟨((H4.out.1.al _).row (w.heap.size, n, d) (by simp)).1, ((H4.out.1.al _).row (w.heap.size, n, d) (by simp)).2.1⟩ | exact ⟨(H4.out.1.drew.row (w.heap.size, n, d) (by simp)).1, (H4.out.1.drew.row (w.heap.size, n, d) (by simp)).2.1⟩) (first
      | (go_at_call 24; refine (is_b _ _ _).mono ?_; rintro e w5 ⟨rfl, hb5⟩; have H5 := Lib.hid (MnAt.below (by first | exact H4.out.drew | exact (H4.out.drew).al _ | exact (H4.out.al _).drew) hb5); (first | (with_reducible have hz := zero_at hb5; obtain ⟨za0, za1, za2, za3, za4⟩ := hz; (try simp at za0 za1 za2 za3 za4)) | (with_reducible have hz := zero_at_drew hb5; obtain ⟨za0, za1, za2, za3, za4⟩ := hz; (try simp at za0 za1 za2 za3 za4)) | (with_reducible have hz := zero_at_drew2 hb5; obtain ⟨za0, za1, za2, za3, za4⟩ := hz; (try simp at za0 za1 za2 za3 za4)) | skip); clear hb5)
      | (go_at_call 44; refine (KD.out _ (by first | exact H5.out.1.bw | exact (H5.out.1.al _).bw)).mono ?_; rintro e w6 ⟨rfl, hb6⟩; have H6 := Lib.hid (MnAt.below (by first | exact H5.out | exact H5.out.al _) hb6); (first | (with_reducible have hz := kept_at5 za0 za1 za2 za3 za4 hb6; obtain ⟨zb0, zb1, zb2, zb3, zb4⟩ := hz) | (with_reducible have hz := zero_at hb6; obtain ⟨zb0, zb1, zb2, zb3, zb4⟩ := hz; (try simp at zb0 zb1 zb2 zb3 zb4)) | skip); clear hb6))
    all_goals
      go_wp2
      go_meet
      exact ⟨_, rfl, by first | exact H6.out.push _ _ _ | exact H6.out.put H5.out rfl zb0 zb1 zb4 _ _ | exact H6.out.put H4.out (by simp) zb0 zb1 zb4 _ _⟩
  case rest =>
    obtain ⟨X, rfl, hX⟩ := hcut
    obtain ⟨x0, x1, _⟩ := hX.1.row (X, rn, rd) (by simp)
    have hr := hX.rs
    obtain ⟨_, q1, q2, q3, q4, _, _⟩ := id hr
    have HR := Lib.hid hr
    clear hr hX
    go_wp2
    obtain ⟨W5, hW5, p0, p1, hbl⟩ := HR.out.fin rn rd
    rw [hW5]
    clear hW5 q1 q2 q3 q4
    refine bodyPost_ret (v := .agg #[.string rn, .string rd]) ?_ rfl ⟨rfl, hbl⟩
    simp [results, Tryz.results45, go_sem, p0, p1, Result.andThen]
end Go.Proofs.YtkekafamfoifmaaGreatDoor
