/-
  Package rational: Valid, and a calculation's steps.
  Package rational: check, Make, Of and the four operations.
  Package rational: the four operations.
  Package rational: what the four operations answer.
  Package rational: round, Down and Up.
  Package rational: Of, Down, Up.
-/
import Derived.Test.YtgngepbemgbbeaaGreatDoorZOut
import Derived.Test.YtgngepbemgbbeaaGreatDoorZQS
import Derived.Test.YtgngepbemgbbeaaGreatDoorZWk
import Derived.Test.YtgngepbemgbbeaaGreatDoorZShelf
namespace Go.Proofs.YtgngepbemgbbeaaGreatDoor
open Go.RowKit Go.Shelf
attribute [local go_sem] Oper.semAt_some

/-- What package integer answers, at all worlds from w on. -/
structure IOps (w : World) : Prop where
  val : ∀ {a : ByteArray}, Sz a → ∀ W, Below w.heap.size w W → Calls Tryz.prog 115 #[.string a] W fun e W' => e = .returned (.bool (validL a.data.toList)) ∧ Below W.heap.size W W'
  cmp : ∀ {a b : ByteArray}, Sz a → Sz b → ∀ W, Below w.heap.size w W → Calls Tryz.prog 84 #[.string a, .string b] W fun e W' => e = .returned (.int .i64 (cmpO a b)) ∧ Below W.heap.size W W'
  gcd : ∀ {a b : ByteArray}, Sz a → Sz b → ∀ W, Below w.heap.size w W → Calls Tryz.prog 116 #[.string a, .string b] W fun e W' => e = .returned (.tuple #[.string (opS (gcdO a b)), .int .i64 (opN (gcdO a b))]) ∧ Below W.heap.size W W'
  add : ∀ {a b : ByteArray}, Sz a → Sz b → ∀ W, Below w.heap.size w W → Calls Tryz.prog 86 #[.string a, .string b] W fun e W' => e = .returned (.tuple #[.string (opS (addO a b)), .int .i64 (opN (addO a b))]) ∧ Below W.heap.size W W'
  sub : ∀ {a b : ByteArray}, Sz a → Sz b → ∀ W, Below w.heap.size w W → Calls Tryz.prog 139 #[.string a, .string b] W fun e W' => e = .returned (.tuple #[.string (opS (subO a b)), .int .i64 (opN (subO a b))]) ∧ Below W.heap.size W W'
  mul : ∀ {a b : ByteArray}, Sz a → Sz b → ∀ W, Below w.heap.size w W → Calls Tryz.prog 170 #[.string a, .string b] W fun e W' => e = .returned (.tuple #[.string (opS (mulO a b)), .int .i64 (opN (mulO a b))]) ∧ Below W.heap.size W W'
  div : ∀ {a b : ByteArray}, Sz a → Sz b → ∀ W, Below w.heap.size w W → Calls Tryz.prog 83 #[.string a, .string b] W fun e W' => e = .returned (.tuple #[.string (opS (divO a b)), .string (opS (modO a b)), .int .i64 (opN (divO a b))]) ∧ Below W.heap.size W W'
theorem IOps.below {w w' : World} (h : IOps w) (hb : Below w.heap.size w w') : IOps w' :=
  ⟨fun ha W hk => h.val ha W (hb.trans (hk.mono hb.size)), fun ha hb' W hk => h.cmp ha hb' W (hb.trans (hk.mono hb.size)), fun ha hb' W hk => h.gcd ha hb' W (hb.trans (hk.mono hb.size)),
   fun ha hb' W hk => h.add ha hb' W (hb.trans (hk.mono hb.size)), fun ha hb' W hk => h.sub ha hb' W (hb.trans (hk.mono hb.size)), fun ha hb' W hk => h.mul ha hb' W (hb.trans (hk.mono hb.size)), fun ha hb' W hk => h.div ha hb' W (hb.trans (hk.mono hb.size))⟩

/-- A fraction's two texts in a box of their own. -/
structure RtAt (X : Nat) (p q : ByteArray) (w W : World) : Prop where
  bw : Below w.heap.size w W
  c0 : W.cell? ⟨X, 0, none⟩ = some (.string p)
  c1 : W.cell? ⟨X, 1, none⟩ = some (.string q)
  le : w.heap.size ≤ X
  sz : X < W.heap.size
theorem RtAt.below {X : Nat} {p q : ByteArray} {w W W' : World} (h : RtAt X p q w W) (hb : Below W.heap.size W W') : RtAt X p q w W' :=
  ⟨h.bw.trans (hb.mono h.bw.size), (hb.cell (p := ⟨X, 0, none⟩) h.sz).trans h.c0, (hb.cell (p := ⟨X, 1, none⟩) h.sz).trans h.c1, h.le, Nat.lt_of_lt_of_le h.sz hb.size⟩
theorem RtAt.start {w W : World} (h : Below w.heap.size w W) (p q : ByteArray) (t : TypeId) : RtAt W.heap.size p q w (W.alloc (.cells #[.string p, .string q] t)) :=
  ⟨h.alloc h.size _, by simp [go_sem], by simp [go_sem], h.size, by simp⟩

/-- Whether two texts are a fraction in lowest terms. -/
def vR (n d : ByteArray) : Bool := (ratO n d).isSome
theorem sz_zero : Sz ⟨#[48]⟩ := by unfold Sz; decide
theorem sz_one : Sz ⟨#[49]⟩ := by unfold Sz; decide
theorem sz_nil : Sz ⟨#[]⟩ := by unfold Sz; decide
theorem str_zero' : (⟨#[48]⟩ : ByteArray) = str 0 := by rfl
theorem str_one' : (⟨#[49]⟩ : ByteArray) = str 1 := by rfl
theorem num_zero : numOf ⟨#[48]⟩ = some 0 := by rw [str_zero', numOf_str, if_pos (by decide)]
theorem num_one : numOf ⟨#[49]⟩ = some 1 := by rw [str_one', numOf_str, if_pos (by decide)]
theorem cmp_zero {d : ByteArray} {q : Int} (h : numOf d = some q) : cmpO d ⟨#[48]⟩ = cmpI q 0 := by unfold cmpO; rw [h, num_zero]
theorem gcd_small {p q : Int} (hq : small q = true) (h : q ≠ 0) : small ((Nat.gcd p.natAbs q.natAbs : Nat) : Int) = true := small_le hq (by rw [Int.natAbs_natCast]; exact gcd_le_q h)
theorem gcd_val {n d : ByteArray} {p q : Int} (h1 : numOf n = some p) (h2 : numOf d = some q) (h : q ≠ 0) : opS (gcdO n d) = str ((Nat.gcd p.natAbs q.natAbs : Nat) : Int) ∧ opN (gcdO n d) = 0 := by
  have e : gcdO n d = some ((Nat.gcd p.natAbs q.natAbs : Nat) : Int) := by unfold gcdO; rw [h1, h2]
  rw [e]
  have := gcd_small (p := p) (numOf_some h2).2 h
  exact ⟨opS_small this, opN_small this⟩

theorem list_str (z : Int) : (str z).toList = txt z := by
  rw [Lib.toList_data, str_list]
theorem one_eq {z : Int} : ((str z).toList == [49]) = decide (z = 1) := by
  rw [list_str, show ([49] : List UInt8) = txt 1 by decide]
  by_cases h : z = 1
  · rw [h]; decide
  · rw [decide_eq_false h]
    exact beq_eq_false_iff_ne.2 fun e => h (txt_inj e)
theorem zero_eq {z : Int} : ((str z).toList == [48]) = decide (z = 0) := by
  rw [list_str, show ([48] : List UInt8) = txt 0 by decide]
  by_cases h : z = 0
  · rw [h]; decide
  · rw [decide_eq_false h]
    exact beq_eq_false_iff_ne.2 fun e => h (txt_inj e)

set_option maxRecDepth 100000 in
set_option maxHeartbeats 1000000 in
theorem Valid_q {n d : ByteArray} (zn : Sz n) (zd : Sz d) {w : World} (h : IOps w) :
    Calls Tryz.prog 82 #[.agg #[.string n, .string d]] w fun e W' => e = .returned (.bool (vR n d)) ∧ Below w.heap.size w W' := by
  have v1 := fun W hk => h.val zn W hk
  have v2 := fun W hk => h.val zd W hk
  have v3 := fun W hk => h.cmp zd sz_zero W hk
  have v4 := fun W hk => h.gcd zn zd W hk
  rw [← numOf_valid] at v1 v2
  have HS := Lib.hid (RtAt.start (Below.refl _ w) n d 47)
  unfold vR ratO
  cases h1 : numOf n with
  | none =>
    rw [h1] at v1
    have V1 := Lib.hid v1
    clear v1 v2 v3 v4 h1
    go_enter Tryz.func82, Tryz.ntmps82
    go_wp2_with (first
      | (go_at_call 115; with_reducible refine (V1.out _ HS.out.bw).mono ?_; rintro e w1 ⟨rfl, hb1⟩; have H1 := Lib.hid (HS.out.below hb1))
      | fail)
    go_ret
    exact ⟨rfl, H1.out.bw⟩
  | some p =>
    rw [h1] at v1
    cases h2 : numOf d with
    | none =>
      rw [h2] at v2
      have V1 := Lib.hid v1
      have V2 := Lib.hid v2
      clear v1 v2 v3 v4 h1 h2
      go_enter Tryz.func82, Tryz.ntmps82
      go_wp2_with (first
        | (go_at_call 115; with_reducible refine (V1.out _ HS.out.bw).mono ?_; rintro e w1 ⟨rfl, hb1⟩; have h1 := HS.out.below hb1; have c1 := h1.c0; have d1 := h1.c1; have H1 := Lib.hid h1; clear h1)
        | (go_at_call 115; with_reducible refine (V2.out _ H1.out.bw).mono ?_; rintro e w2 ⟨rfl, hb2⟩; have h2 := H1.out.below hb2; have c2 := h2.c0; have d2 := h2.c1; have H2 := Lib.hid h2; clear h2)
        | fail)
      go_ret
      exact ⟨rfl, H2.out.bw⟩
    | some q =>
      rw [h2] at v2
      rw [cmp_zero h2] at v3
      have V1 := Lib.hid v1
      have V2 := Lib.hid v2
      clear v1 v2
      by_cases hq : 0 < q
      · rw [show cmpI q 0 = 1 by unfold cmpI; rw [if_neg (by omega), if_pos hq]] at v3
        obtain ⟨g1, g2⟩ := gcd_val h1 h2 (p := p) (q := q) (by omega)
        rw [g1, g2] at v4
        have V3 := Lib.hid v3
        have V4 := Lib.hid v4
        clear v3 v4 g1 g2 h1 h2
        have key : (match (some p : Option Int), (some q : Option Int) with | some p, some q => if 0 < q ∧ Nat.gcd p.natAbs q.natAbs = 1 then some (Rat.divInt p q) else none | _, _ => none).isSome = ((str ((Nat.gcd p.natAbs q.natAbs : Nat) : Int)).toList == [49]) := by
          rw [one_eq]
          show (if _ then _ else _ : Option Rat).isSome = _
          by_cases hg : Nat.gcd p.natAbs q.natAbs = 1
          · rw [if_pos ⟨hq, hg⟩, hg]; rfl
          · rw [if_neg (fun k => hg k.2)]
            exact (decide_eq_false (by omega)).symm
        rw [key]
        clear key
        generalize str ((Nat.gcd p.natAbs q.natAbs : Nat) : Int) = g at V4 ⊢
        go_enter Tryz.func82, Tryz.ntmps82
        go_wp2_with (first
          | (go_at_call 115; with_reducible refine (V1.out _ HS.out.bw).mono ?_; rintro e w1 ⟨rfl, hb1⟩; have h1 := HS.out.below hb1; have c1 := h1.c0; have d1 := h1.c1; have H1 := Lib.hid h1; clear h1)
          | (go_at_call 115; with_reducible refine (V2.out _ H1.out.bw).mono ?_; rintro e w2 ⟨rfl, hb2⟩; have h2 := H1.out.below hb2; have c2 := h2.c0; have d2 := h2.c1; have H2 := Lib.hid h2; clear h2)
          | (go_at_call 84; with_reducible refine (V3.out _ H2.out.bw).mono ?_; rintro e w3 ⟨rfl, hb3⟩; have h3 := H2.out.below hb3; have c3 := h3.c0; have d3 := h3.c1; have H3 := Lib.hid h3; clear h3)
          | (go_at_call 116; with_reducible refine (V4.out _ H3.out.bw).mono ?_; rintro e w4 ⟨rfl, hb4⟩; have h4 := H3.out.below hb4; have c4 := h4.c0; have d4 := h4.c1; have H4 := Lib.hid h4; clear h4)
          | fail)
        go_ret
        exact ⟨rfl, H4.out.bw⟩
      · have hq0 : q ≤ 0 := by omega
        have key : (match (some p : Option Int), (some q : Option Int) with | some p, some q => if 0 < q ∧ Nat.gcd p.natAbs q.natAbs = 1 then some (Rat.divInt p q) else none | _, _ => none).isSome = false := by
          show (if _ then _ else _ : Option Rat).isSome = _
          rw [if_neg (fun k => hq k.1)]
          rfl
        rw [key]
        have hc : cmpI q 0 ≤ 0 := by unfold cmpI; rw [if_neg (show ¬ 0 < q from hq)]; split <;> omega
        clear key hq hq0 h1 h2 v4
        generalize cmpI q 0 = c at v3 hc
        have V3 := Lib.hid v3
        clear v3
        go_enter Tryz.func82, Tryz.ntmps82
        go_wp2_with (first
          | (go_at_call 115; with_reducible refine (V1.out _ HS.out.bw).mono ?_; rintro e w1 ⟨rfl, hb1⟩; have h1 := HS.out.below hb1; have c1 := h1.c0; have d1 := h1.c1; have H1 := Lib.hid h1; clear h1)
          | (go_at_call 115; with_reducible refine (V2.out _ H1.out.bw).mono ?_; rintro e w2 ⟨rfl, hb2⟩; have h2 := H1.out.below hb2; have c2 := h2.c0; have d2 := h2.c1; have H2 := Lib.hid h2; clear h2)
          | (go_at_call 84; with_reducible refine (V3.out _ H2.out.bw).mono ?_; rintro e w3 ⟨rfl, hb3⟩; have h3 := H2.out.below hb3; have H3 := Lib.hid h3; clear h3)
          | fail)
        go_ret
        exact ⟨rfl, H3.out.bw⟩
/-- The text that a step of a calculation answers, and its flag behind it. -/
def stS (b : Bool) (o : Option Int) : ByteArray := if b = true then ⟨#[]⟩ else opS o
def stB (b : Bool) (o : Option Int) : Bool := b || (opN o != 0)
theorem opS_sz (o : Option Int) : Sz (opS o) := by
  unfold opS
  cases o with
  | none => exact sz_nil
  | some z =>
    by_cases h : small z = true
    · simp only [h]
      unfold Sz
      rw [if_pos trivial, str_size]
      have := txt_length z
      have : nDig z.natAbs ≤ 200 := by simpa [small] using h
      omega
    · simp only [h]
      exact sz_nil
theorem stS_sz (b : Bool) (o : Option Int) : Sz (stS b o) := by
  unfold stS
  split
  · exact sz_nil
  · exact opS_sz o
theorem stB_true (o : Option Int) : stB true o = true := rfl
theorem stS_true (o : Option Int) : stS true o = ⟨#[]⟩ := rfl
theorem stS_false (o : Option Int) : stS false o = opS o := rfl
theorem stB_small {z : Int} (h : small z = true) : stB false (some z) = false := by unfold stB; rw [opN_small h]; rfl
theorem opN_great {z : Int} (h : ¬ small z = true) : opN (some z) = 30 := by unfold opN; exact if_neg h
theorem stB_great {z : Int} (h : ¬ small z = true) (b : Bool) : stB b (some z) = true := by unfold stB; rw [opN_great h]; simp
theorem stB_none (b : Bool) : stB b none = true := by unfold stB; rw [opN_none]; simp

theorem do_q (K : Nat) (o : Option Int) {n N : Nat} {b : Bool} {w W : World} (x y : ByteArray) (h : WkAt n N b w W)
    (hent : ∀ (args : Array Value) (w : World), (callFunc K args).run Tryz.prog w = .ok (.enter K args) w)
    (hK : b = false → Calls Tryz.prog K #[.string x, .string y] W fun e W' => e = .returned (.tuple #[.string (opS o), .int .i64 (opN o)]) ∧ Below W.heap.size W W') :
    Calls Tryz.prog 125 #[.pointer (some ⟨N, 0, none⟩), .func (.func K) #[] #[], .string x, .string y] W fun e W' => e = .returned (.string (stS b o)) ∧ WkTo n N (stB b o) w W W' :=
  do_any K x y (opS o) (opN o) h hent hK

set_option maxRecDepth 100000 in
set_option maxHeartbeats 1000000 in
theorem mul_q {n N : Nat} {b : Bool} {x y : ByteArray} {w W : World} (zx : Sz x) (zy : Sz y) (h : WkAt n N b w W) (hi : IOps W) :
    Calls Tryz.prog 126 #[.pointer (some ⟨N, 0, none⟩), .string x, .string y] W fun e W' => e = .returned (.string (stS b (mulO x y))) ∧ WkTo n N (stB b (mulO x y)) w W W' := by
  have hd := Lib.hid (do_q 170 (mulO x y) x y h (enters_of Tryz.func170 (by kernel_rfl) rfl) (fun _ => hi.mul zx zy W (Below.refl _ _)))
  clear h hi
  go_enter Tryz.func126, Tryz.ntmps126
  go_wp2_with (go_at_call 125; with_reducible refine (hd.out).mono ?_; rintro e w1 ⟨rfl, h1⟩)
  go_ret
  exact ⟨rfl, h1⟩

set_option maxRecDepth 100000 in
set_option maxHeartbeats 1000000 in
theorem quot1 {x y : ByteArray} {w : World} (zx : Sz x) (zy : Sz y) (hi : IOps w) :
    Calls Tryz.prog 202 #[.string x, .string y] w fun e W' => e = .returned (.tuple #[.string (opS (divO x y)), .int .i64 (opN (divO x y))]) ∧ Below w.heap.size w W' := by
  have hd := Lib.hid (hi.div zx zy w (Below.refl _ _))
  clear hi
  go_enter Tryz.func202, Tryz.ntmps202
  go_wp2_with (go_at_call 83; with_reducible refine (hd.out).mono ?_; rintro e w1 ⟨rfl, h1⟩)
  refine bodyPost_ret (v := .tuple #[.string (opS (divO x y)), .int .i64 (opN (divO x y))]) ?_ rfl ⟨rfl, h1⟩
  simp [results, Tryz.results202, go_sem]

set_option maxRecDepth 100000 in
set_option maxHeartbeats 1000000 in
theorem quotient_q {n N : Nat} {b : Bool} {x y : ByteArray} {w W : World} (zx : Sz x) (zy : Sz y) (h : WkAt n N b w W) (hi : IOps W) :
    Calls Tryz.prog 171 #[.pointer (some ⟨N, 0, none⟩), .string x, .string y] W fun e W' => e = .returned (.string (stS b (divO x y))) ∧ WkTo n N (stB b (divO x y)) w W W' := by
  have hd := Lib.hid (do_q 202 (divO x y) x y h (enters_of Tryz.func202 (by kernel_rfl) rfl) (fun _ => quot1 zx zy hi))
  clear h hi
  go_enter Tryz.func171, Tryz.ntmps171
  go_wp2_with (go_at_call 125; with_reducible refine (hd.out).mono ?_; rintro e w1 ⟨rfl, h1⟩)
  go_ret
  exact ⟨rfl, h1⟩
theorem do_s (K : Nat) {z : Int} {o : Option Int} {n N : Nat} {w W : World} (x y : ByteArray) (h : WkAt n N false w W) (e : o = some z) (hs : small z = true)
    (hent : ∀ (args : Array Value) (w : World), (callFunc K args).run Tryz.prog w = .ok (.enter K args) w)
    (hK : Calls Tryz.prog K #[.string x, .string y] W fun e W' => e = .returned (.tuple #[.string (opS o), .int .i64 (opN o)]) ∧ Below W.heap.size W W') :
    Calls Tryz.prog 125 #[.pointer (some ⟨N, 0, none⟩), .func (.func K) #[] #[], .string x, .string y] W fun e W' => e = .returned (.string (str z)) ∧ WkTo n N false w W W' := by
  have hd := do_q K o x y h hent (fun _ => hK)
  rw [e, stS_false, opS_small hs, stB_small hs] at hd
  exact hd
theorem quotient_s {z : Int} {n N : Nat} {x y : ByteArray} {w W : World} (zx : Sz x) (zy : Sz y) (h : WkAt n N false w W) (hi : IOps W) (e : divO x y = some z) (hs : small z = true) :
    Calls Tryz.prog 171 #[.pointer (some ⟨N, 0, none⟩), .string x, .string y] W fun e W' => e = .returned (.string (str z)) ∧ WkTo n N false w W W' := by
  have hd := quotient_q zx zy h hi
  rw [e, stS_false, opS_small hs, stB_small hs] at hd
  exact hd
/-- The calculation's flag, and the result's block behind it. -/
structure RdAt (N R : Nat) (w W : World) : Prop where
  wk : WkAt w.heap.size N false w W
  r0 : W.cell? ⟨R, 0, none⟩ = some (.string ⟨#[]⟩)
  r1 : W.cell? ⟨R, 1, none⟩ = some (.string ⟨#[]⟩)
  f0 : W.frozen? ⟨R, 0, none⟩ = false
  f1 : W.frozen? ⟨R, 1, none⟩ = false
  le : N < R
  sz : R < W.heap.size
theorem RdAt.to {N R : Nat} {w W W' : World} (h : RdAt N R w W) (h2 : WkTo w.heap.size N false w W W') : RdAt N R w W' := by
  obtain ⟨c, f⟩ := h2.keep h.le h.sz
  exact ⟨h2.wk, (c _).trans h.r0, (c _).trans h.r1, (f _).trans h.f0, (f _).trans h.f1, h.le, Nat.lt_of_lt_of_le h.sz h2.size⟩
theorem RdAt.al {N R : Nat} {w W : World} (h : RdAt N R w W) : (∀ o, (W.alloc o).cell? ⟨N, 0, none⟩ = some (.bool false)) ∧ (∀ o, (W.alloc o).cell? ⟨R, 0, none⟩ = some (.string ⟨#[]⟩)) ∧ (∀ o, (W.alloc o).cell? ⟨R, 1, none⟩ = some (.string ⟨#[]⟩)) ∧
    (∀ o, (W.alloc o).frozen? ⟨R, 0, none⟩ = false) ∧ (∀ o, (W.alloc o).frozen? ⟨R, 1, none⟩ = false) := by
  have hb := fun o => bcell ((Below.refl W.heap.size W).alloc (Nat.le_refl _) o)
  exact ⟨fun o => ((hb o).1 _ _ h.wk.sz).trans h.wk.c, fun o => ((hb o).1 _ _ h.sz).trans h.r0, fun o => ((hb o).1 _ _ h.sz).trans h.r1, fun o => ((hb o).2 _ _ h.sz).trans h.f0, fun o => ((hb o).2 _ _ h.sz).trans h.f1⟩
theorem RdAt.start {N : Nat} {w W : World} (h : WkAt w.heap.size N false w W) (t : TypeId) : RdAt N W.heap.size w (W.alloc (.cells #[.string ⟨#[]⟩, .string ⟨#[]⟩] t)) :=
  ⟨h.alloc _, by simp [go_sem], by simp [go_sem], by simp [go_sem], by simp [go_sem], h.sz, by simp⟩

set_option maxRecDepth 100000 in
set_option maxHeartbeats 2000000 in
theorem reduced_bad {N : Nat} {b : Bool} {x y : ByteArray} {w W : World} (h : WkAt w.heap.size N b w W) (hx : b = true ∨ b = false ∧ y = ⟨#[48]⟩) :
    Calls Tryz.prog 127 #[.pointer (some ⟨N, 0, none⟩), .string x, .string y] W fun e W' => e = .returned (.tuple #[.agg #[.string ⟨#[]⟩, .string ⟨#[]⟩], .int .i64 40]) ∧ Below w.heap.size w W' := by
  have c0 := h.c
  have hs := h.sz
  have hl := h.le
  have hb := h.bw
  obtain ⟨c, f⟩ := bcell ((Below.refl W.heap.size W).alloc (Nat.le_refl _) (.cells #[.string ⟨#[]⟩, .string ⟨#[]⟩] 47))
  have c1 := (c N 0 hs).trans c0
  clear h c f
  rcases hx with rfl | ⟨rfl, rfl⟩
  all_goals
    go_enter Tryz.func127, Tryz.ntmps127
    go_wp2
    refine bodyPost_ret (v := .tuple #[.agg #[.string ⟨#[]⟩, .string ⟨#[]⟩], .int .i64 40]) ?_ rfl ⟨rfl, hb.alloc (by omega) _⟩
    simp [results, Tryz.results127, go_sem, Result.andThen]

set_option maxRecDepth 100000 in
set_option maxHeartbeats 4000000 in
theorem reduced_pos {N : Nat} {x y : ByteArray} {p q : Int} {w W : World} (h : WkAt w.heap.size N false w W) (hi : IOps w) (zx : Sz x) (zy : Sz y) (h1 : numOf x = some p) (h2 : numOf y = some q) (hq : 0 < q) :
    Calls Tryz.prog 127 #[.pointer (some ⟨N, 0, none⟩), .string x, .string y] W fun e W' => e = .returned (.tuple #[.agg #[.string (str (p / ((Nat.gcd p.natAbs q.natAbs : Nat) : Int))), .string (str (q / ((Nat.gcd p.natAbs q.natAbs : Nat) : Int)))], .int .i64 0]) ∧ Below w.heap.size w W' := by
  obtain ⟨ex, hp⟩ := numOf_some h1
  obtain ⟨ey, hqs⟩ := numOf_some h2
  have hy : (y.toList == [48]) = false := by
    rw [ey, zero_eq]
    exact decide_eq_false (by omega)
  have hg := gcd_small (p := p) hqs (by omega)
  have hg0 : 0 < Nat.gcd p.natAbs q.natAbs := gcd_pos (by omega)
  have eg : gcdO x y = some ((Nat.gcd p.natAbs q.natAbs : Nat) : Int) := by unfold gcdO; rw [h1, h2]
  generalize Nat.gcd p.natAbs q.natAbs = g at eg hg hg0 ⊢
  have ng : numOf (str (g : Int)) = some (g : Int) := by rw [numOf_str, if_pos hg]
  have zg : Sz (str (g : Int)) := by rw [← opS_small hg]; exact opS_sz _
  have ed1 : divO x (str (g : Int)) = some (p / g) := by unfold divO; rw [h1, ng]; exact if_neg (by omega)
  have ed2 : divO y (str (g : Int)) = some (q / g) := by unfold divO; rw [h2, ng]; exact if_neg (by omega)
  have hR := RdAt.start h 47
  have kc := Lib.hid (fun W' (k : Below w.heap.size w W') => by have := hi.cmp zy sz_zero W' k; rw [cmp_zero h2, show cmpI q 0 = 1 by unfold cmpI; rw [if_neg (by omega), if_pos hq]] at this; exact this)
  have kg := Lib.hid (fun W' (k : WkAt w.heap.size N false w W') => do_s 116 x y k eg hg (enters_of Tryz.func116 (by kernel_rfl) rfl) ((hi.below k.bw).gcd zx zy W' (Below.refl _ _)))
  have k1 := Lib.hid (fun W' (k : WkAt w.heap.size N false w W') => quotient_s zx zg k (hi.below k.bw) ed1 (small_div g hp))
  have k2 := Lib.hid (fun W' (k : WkAt w.heap.size N false w W') => quotient_s zy zg k (hi.below k.bw) ed2 (small_div g hqs))
  generalize str (g : Int) = sg at kg k1 k2
  generalize str (p / (g : Int)) = s1 at k1 ⊢
  generalize str (q / (g : Int)) = s2 at k2 ⊢
  clear ed1 ed2 ng zg eg hg hg0 ex ey hp hqs h1 h2 hi
  have c0 := hR.wk.c
  have H0 := Lib.hid hR
  clear hR h hq
  go_enter Tryz.func127, Tryz.ntmps127
  go_wp2_with (first
    | (go_at_call 84; with_reducible refine (kc.out _ H0.out.wk.bw).mono ?_; rintro e w1 ⟨rfl, hb⟩; have H1 := Lib.hid (H0.out.to (WkTo.below H0.out.wk hb)); clear hb)
    | (go_at_call 125; with_reducible refine (kg.out _ H1.out.wk).mono ?_; rintro e w2 ⟨rfl, hb⟩; have H2 := Lib.hid (H1.out.to hb); clear hb)
    | (go_at_call 171; with_reducible refine (k1.out _ H2.out.wk).mono ?_; rintro e w3 ⟨rfl, hb⟩; have H3 := Lib.hid (H2.out.to hb); clear hb)
    | (go_at_call 171; with_reducible refine (k2.out _ H3.out.wk).mono ?_; rintro e w4 ⟨rfl, hb⟩; have h4 := H3.out.to hb; obtain ⟨c4, q1, q2, q3, q4⟩ := h4.al; have H4 := Lib.hid h4; clear hb h4)
    | fail)
  obtain ⟨W5, hW5⟩ : ∃ W5, (((w4.alloc (.cells #[.string s1, .string s2] 47)).setCell ⟨W.heap.size, 0, none⟩ (.string s1)).setCell ⟨W.heap.size, 1, none⟩ (.string s2)) = W5 := ⟨_, rfl⟩
  have p1 : W5.cell? ⟨W.heap.size, 1, none⟩ = some (.string s2) := by
    rw [← hW5]
    exact World.cell?_setCell_same _ _ _ ((World.cell?_setCell_other _ _ _ _ (by simp)).trans (q2 _))
  have p0 : W5.cell? ⟨W.heap.size, 0, none⟩ = some (.string s1) := by
    rw [← hW5]
    exact (World.cell?_setCell_other _ _ _ _ (by simp)).trans (World.cell?_setCell_same _ _ _ (q1 _))
  have hbl : Below w.heap.size w W5 := by
    rw [← hW5]
    have k := H4.out.wk
    have := H0.out.wk.le
    have := H0.out.le
    exact ((k.bw.alloc k.bw.size _).setCell (by simp; omega) _).setCell (by simp; omega) _
  rw [hW5]
  clear hW5
  refine bodyPost_ret (v := .tuple #[.agg #[.string s1, .string s2], .int .i64 0]) ?_ rfl ⟨rfl, hbl⟩
  simp [results, Tryz.results127, go_sem, p0, p1, Result.andThen]
set_option maxRecDepth 100000 in
set_option maxHeartbeats 4000000 in
theorem reduced_neg {N : Nat} {x y : ByteArray} {p q : Int} {w W : World} (h : WkAt w.heap.size N false w W) (hi : IOps w) (zx : Sz x) (zy : Sz y) (h1 : numOf x = some p) (h2 : numOf y = some q) (hq : q < 0) :
    Calls Tryz.prog 127 #[.pointer (some ⟨N, 0, none⟩), .string x, .string y] W fun e W' => e = .returned (.tuple #[.agg #[.string (str (-p / ((Nat.gcd (-p).natAbs (-q).natAbs : Nat) : Int))), .string (str (-q / ((Nat.gcd (-p).natAbs (-q).natAbs : Nat) : Int)))], .int .i64 0]) ∧ Below w.heap.size w W' := by
  obtain ⟨ex, hp⟩ := numOf_some h1
  obtain ⟨ey, hqs⟩ := numOf_some h2
  have hy : (y.toList == [48]) = false := by
    rw [ey, zero_eq]
    exact decide_eq_false (by omega)
  have hg := gcd_small (p := -p) (small_neg hqs) (by omega)
  have hg0 : 0 < Nat.gcd (-p).natAbs (-q).natAbs := gcd_pos (by omega)
  have e01 : subO ⟨#[48]⟩ x = some (-p) := by unfold subO; rw [num_zero, h1]; show some (0 - p) = _; rw [Int.zero_sub]
  have e02 : subO ⟨#[48]⟩ y = some (-q) := by unfold subO; rw [num_zero, h2]; show some (0 - q) = _; rw [Int.zero_sub]
  have hp' := small_neg hp
  have hqs' := small_neg hqs
  have m1 : numOf (str (-p)) = some (-p) := by rw [numOf_str, if_pos hp']
  have m2 : numOf (str (-q)) = some (-q) := by rw [numOf_str, if_pos hqs']
  have zx' : Sz (str (-p)) := by rw [← opS_small hp']; exact opS_sz _
  have zy' : Sz (str (-q)) := by rw [← opS_small hqs']; exact opS_sz _
  have eg : gcdO (str (-p)) (str (-q)) = some ((Nat.gcd (-p).natAbs (-q).natAbs : Nat) : Int) := by unfold gcdO; rw [m1, m2]
  generalize Nat.gcd (-p).natAbs (-q).natAbs = g at eg hg hg0 ⊢
  have ng : numOf (str (g : Int)) = some (g : Int) := by rw [numOf_str, if_pos hg]
  have zg : Sz (str (g : Int)) := by rw [← opS_small hg]; exact opS_sz _
  have ed1 : divO (str (-p)) (str (g : Int)) = some (-p / g) := by unfold divO; rw [m1, ng]; exact if_neg (by omega)
  have ed2 : divO (str (-q)) (str (g : Int)) = some (-q / g) := by unfold divO; rw [m2, ng]; exact if_neg (by omega)
  have hR := RdAt.start h 47
  have kc := Lib.hid (fun W' (k : Below w.heap.size w W') => by have := hi.cmp zy sz_zero W' k; rw [cmp_zero h2, show cmpI q 0 = -1 by unfold cmpI; rw [if_pos hq]] at this; exact this)
  have ks1 := Lib.hid (fun W' (k : WkAt w.heap.size N false w W') => do_s 139 ⟨#[48]⟩ x k e01 hp' (enters_of Tryz.func139 (by kernel_rfl) rfl) ((hi.below k.bw).sub sz_zero zx W' (Below.refl _ _)))
  have ks2 := Lib.hid (fun W' (k : WkAt w.heap.size N false w W') => do_s 139 ⟨#[48]⟩ y k e02 hqs' (enters_of Tryz.func139 (by kernel_rfl) rfl) ((hi.below k.bw).sub sz_zero zy W' (Below.refl _ _)))
  have kg := Lib.hid (fun W' (k : WkAt w.heap.size N false w W') => do_s 116 (str (-p)) (str (-q)) k eg hg (enters_of Tryz.func116 (by kernel_rfl) rfl) ((hi.below k.bw).gcd zx' zy' W' (Below.refl _ _)))
  have k1 := Lib.hid (fun W' (k : WkAt w.heap.size N false w W') => quotient_s zx' zg k (hi.below k.bw) ed1 (small_div g hp'))
  have k2 := Lib.hid (fun W' (k : WkAt w.heap.size N false w W') => quotient_s zy' zg k (hi.below k.bw) ed2 (small_div g hqs'))
  generalize str (g : Int) = sg at kg k1 k2
  generalize str (-p / (g : Int)) = s1 at k1 ⊢
  generalize str (-q / (g : Int)) = s2 at k2 ⊢
  generalize str (-p) = x' at ks1 kg k1
  generalize str (-q) = y' at ks2 kg k2
  clear ed1 ed2 ng zg eg hg hg0 ex ey hp hqs h1 h2 hi e01 e02 hp' hqs' m1 m2 zx' zy'
  have c0 := hR.wk.c
  have H0 := Lib.hid hR
  clear hR h hq
  go_enter Tryz.func127, Tryz.ntmps127
  go_wp2_with (first
    | (go_at_call 84; with_reducible refine (kc.out _ H0.out.wk.bw).mono ?_; rintro e w1 ⟨rfl, hb⟩; have H1 := Lib.hid (H0.out.to (WkTo.below H0.out.wk hb)); clear hb)
    | (go_at_call 125; with_reducible refine (ks1.out _ H1.out.wk).mono ?_; rintro e w11 ⟨rfl, hb⟩; have H11 := Lib.hid (H1.out.to hb); clear hb)
    | (go_at_call 125; with_reducible refine (ks2.out _ H11.out.wk).mono ?_; rintro e w12 ⟨rfl, hb⟩; have H12 := Lib.hid (H11.out.to hb); clear hb)
    | (go_at_call 125; with_reducible refine (kg.out _ H12.out.wk).mono ?_; rintro e w2 ⟨rfl, hb⟩; have H2 := Lib.hid (H12.out.to hb); clear hb)
    | (go_at_call 171; with_reducible refine (k1.out _ H2.out.wk).mono ?_; rintro e w3 ⟨rfl, hb⟩; have H3 := Lib.hid (H2.out.to hb); clear hb)
    | (go_at_call 171; with_reducible refine (k2.out _ H3.out.wk).mono ?_; rintro e w4 ⟨rfl, hb⟩; have h4 := H3.out.to hb; obtain ⟨c4, q1, q2, q3, q4⟩ := h4.al; have H4 := Lib.hid h4; clear hb h4)
    | fail)
  obtain ⟨W5, hW5⟩ : ∃ W5, (((w4.alloc (.cells #[.string s1, .string s2] 47)).setCell ⟨W.heap.size, 0, none⟩ (.string s1)).setCell ⟨W.heap.size, 1, none⟩ (.string s2)) = W5 := ⟨_, rfl⟩
  have p1 : W5.cell? ⟨W.heap.size, 1, none⟩ = some (.string s2) := by
    rw [← hW5]
    exact World.cell?_setCell_same _ _ _ ((World.cell?_setCell_other _ _ _ _ (by simp)).trans (q2 _))
  have p0 : W5.cell? ⟨W.heap.size, 0, none⟩ = some (.string s1) := by
    rw [← hW5]
    exact (World.cell?_setCell_other _ _ _ _ (by simp)).trans (World.cell?_setCell_same _ _ _ (q1 _))
  have hbl : Below w.heap.size w W5 := by
    rw [← hW5]
    have k := H4.out.wk
    have := H0.out.wk.le
    have := H0.out.le
    exact ((k.bw.alloc k.bw.size _).setCell (by simp; omega) _).setCell (by simp; omega) _
  rw [hW5]
  clear hW5
  refine bodyPost_ret (v := .tuple #[.agg #[.string s1, .string s2], .int .i64 0]) ?_ rfl ⟨rfl, hbl⟩
  simp [results, Tryz.results127, go_sem, p0, p1, Result.andThen]
theorem reduced_q {N : Nat} {b : Bool} {x y : ByteArray} {p q : Int} {w W : World} (h : WkAt w.heap.size N b w W) (hi : IOps w) (zx : Sz x) (zy : Sz y) (hx : b = false → numOf x = some p ∧ numOf y = some q) :
    Calls Tryz.prog 127 #[.pointer (some ⟨N, 0, none⟩), .string x, .string y] W fun e W' => e = .returned (.tuple #[.agg #[.string (qN (if b = true then none else makeR p q)), .string (qD (if b = true then none else makeR p q))], .int .i64 (qE (if b = true then none else makeR p q))]) ∧ Below w.heap.size w W' := by
  cases b with
  | true => exact reduced_bad h (.inl rfl)
  | false =>
    obtain ⟨h1, h2⟩ := hx rfl
    rw [if_neg (by decide)]
    unfold makeR
    rcases Int.lt_trichotomy q 0 with hq | hq | hq
    · rw [if_neg (by omega), qN_some, qD_some, qE_some, num_neg hq, den_neg hq]
      exact reduced_neg h hi zx zy h1 h2 hq
    · rw [if_pos hq]
      refine reduced_bad h (.inr ⟨rfl, ?_⟩)
      rw [(numOf_some h2).1, hq]
      rfl
    · rw [if_neg (by omega), qN_some, qD_some, qE_some, num_pos hq, den_pos hq]
      exact reduced_pos h hi zx zy h1 h2 hq
end Go.Proofs.YtgngepbemgbbeaaGreatDoor

namespace Go.Proofs.YtgngepbemgbbeaaGreatDoor
open Go.RowKit Go.Shelf
attribute [local go_sem] Oper.semAt_some

theorem WkTo.trans {n N : Nat} {b b' : Bool} {w W V U : World} (h : WkTo n N b w W V) (k : WkTo n N b' w V U) : WkTo n N b' w W U :=
  ⟨k.wk, h.ag.trans (fun i h1 h2 => k.ag i h1 (Nat.lt_of_lt_of_le h2 h.size)), Nat.le_trans h.size k.size⟩
theorem WkAt.al {n N : Nat} {b : Bool} {w W : World} (h : WkAt n N b w W) : (∀ o, (W.alloc o).cell? ⟨N, 0, none⟩ = some (.bool b)) ∧ (∀ o, (W.alloc o).frozen? ⟨N, 0, none⟩ = false) := ⟨fun o => (h.alloc o).c, fun o => (h.alloc o).f⟩
/-- The calculation's flag after some fractions have been checked. -/
def chkB (b : Bool) (l : List (ByteArray × ByteArray)) : Bool := b || !(l.all fun p => vR p.1 p.2)
theorem chkB_zero (b : Bool) (l : List (ByteArray × ByteArray)) : chkB b (l.take 0) = b := by simp [chkB]
theorem chkB_all (b : Bool) (l : List (ByteArray × ByteArray)) : chkB b (l.take l.length) = chkB b l := by rw [List.take_length]
theorem chkB_step (b : Bool) (l : List (ByteArray × ByteArray)) (k : Nat) (h : k < l.length) : chkB b (l.take (k + 1)) = (chkB b (l.take k) || !vR l[k].1 l[k].2) := by
  unfold chkB
  rw [List.take_add_one, List.getElem?_eq_getElem h, List.all_append]
  simp [Bool.not_and, Bool.or_assoc]
/-- Some fractions in a block. -/
structure FrAt (S : Nat) (l : List (ByteArray × ByteArray)) (W : World) : Prop where
  row : ∀ k (h : k < l.length), W.cell? ⟨S, k * 2, none⟩ = some (.string l[k].1) ∧ W.cell? ⟨S, k * 2 + 1, none⟩ = some (.string l[k].2)
  sz : S < W.heap.size
  szs : ∀ p ∈ l, Sz p.1 ∧ Sz p.2

set_option maxRecDepth 100000 in
set_option maxHeartbeats 2000000 in
theorem check_q {N S : Nat} {b : Bool} {l : List (ByteArray × ByteArray)} {w W : World} (h : WkAt w.heap.size N b w W) (hi : IOps w) (hf : FrAt S l W) (hNS : N < S) (hl : l.length ≤ 2) :
    Calls Tryz.prog 124 #[.pointer (some ⟨N, 0, none⟩), .slice (some ⟨S, 0, none⟩) l.length l.length] W fun e W' => (∃ v, e = .returned v) ∧ WkTo w.heap.size N (chkB b l) w W W' := by
  have HW := Lib.hid (WkTo.refl h)
  have HF := Lib.hid hf
  have HI := Lib.hid hi
  clear h hf hi
  go_enter Tryz.func124, Tryz.ntmps124
  go_wp2
  go_loopw [8] (fun i wr => ∃ k : Nat, k ≤ l.length ∧ i = .int .i64 (k : Int) ∧ WkTo w.heap.size N (chkB b (l.take k)) w W wr) (fun i _ => l.length - (intOf i).toNat)
  case atStart => exact ⟨0, by omega, rfl, by rw [chkB_zero]; exact HW.out⟩
  case round =>
    obtain ⟨k, hk, rfl, hto⟩ := hrel
    by_cases hk2 : k < l.length
    · obtain ⟨c0, f0⟩ := hto.wk.al
      obtain ⟨hc, _⟩ := hto.keep hNS HF.out.sz
      obtain ⟨r1, r2⟩ := HF.out.row k hk2
      have r1 := (hc _).trans r1
      have r2 := (hc _).trans r2
      have hst := chkB_step b l k hk2
      obtain ⟨z1, z2⟩ := HF.out.szs _ (List.getElem_mem hk2)
      generalize l[k].1 = p1 at r1 hst z1
      generalize l[k].2 = p2 at r2 hst z2
      have HT := Lib.hid hto
      have HST := Lib.hid hst
      clear hto hc hst
      have hv := Lib.hid (fun W' (k : WkAt w.heap.size N (chkB b (l.take k)) w W') => Valid_q z1 z2 (HI.out.below k.bw))
      cases hcb : chkB b (l.take k) with
      | true =>
        rw [hcb] at c0 hv HT HST
        go_wp2
        exact ⟨⟨k + 1, by omega, by go_num, by rw [HST.out]; exact HT.out.trans ⟨(HT.out.wk.alloc _).set _, ((Agree.refl _ _ _).alloc (Nat.le_refl _) _).setCell (.inl (by simp)) _, by simp⟩⟩, by simp only [intOf]; omega⟩
      | false =>
        rw [hcb] at c0 hv HT HST
        go_wp2_with (go_at_call 82; with_reducible refine (hv.out _ (HT.out.wk.alloc _)).mono ?_; rintro e w1 ⟨rfl, hb⟩; have h1 := (HT.out.wk.alloc (.cells #[.string p1, .string p2] 47)).below hb; have c1 := h1.c; have f1 := h1.f; have H1 := Lib.hid h1; clear h1)
        exact ⟨⟨k + 1, by omega, by go_num, by rw [HST.out]; exact HT.out.trans ⟨H1.out.set _, ((Agree.of_below ((Below.refl _ _).alloc (Nat.le_refl _) _) (Nat.le_refl _)).trans (Agree.of_below hb (by simp))).setCell (.inl (by simp)) _, by have := hb.size; simp at this ⊢; omega⟩⟩, by simp only [intOf]; omega⟩
    · obtain rfl : k = l.length := by omega
      rw [chkB_all] at hto
      have HT := Lib.hid hto
      clear hto
      go_wp2
      go_end0
      exact ⟨⟨_, rfl⟩, HT.out⟩
/-- A result's block: two empty texts that may be written. -/
structure RsAt (R : Nat) (w W : World) : Prop where
  bw : Below w.heap.size w W
  r0 : W.cell? ⟨R, 0, none⟩ = some (.string ⟨#[]⟩)
  r1 : W.cell? ⟨R, 1, none⟩ = some (.string ⟨#[]⟩)
  f0 : W.frozen? ⟨R, 0, none⟩ = false
  f1 : W.frozen? ⟨R, 1, none⟩ = false
  le : w.heap.size ≤ R
  sz : R < W.heap.size
theorem RsAt.below {R : Nat} {w W W' : World} (h : RsAt R w W) (hb : Below W.heap.size W W') : RsAt R w W' := by
  obtain ⟨c, f⟩ := bcell hb
  exact ⟨h.bw.trans (hb.mono h.bw.size), (c _ _ h.sz).trans h.r0, (c _ _ h.sz).trans h.r1, (f _ _ h.sz).trans h.f0, (f _ _ h.sz).trans h.f1, h.le, Nat.lt_of_lt_of_le h.sz hb.size⟩
theorem RsAt.start {w W : World} (h : Below w.heap.size w W) (t : TypeId) : RsAt W.heap.size w (W.alloc (.cells #[.string ⟨#[]⟩, .string ⟨#[]⟩] t)) :=
  ⟨h.alloc h.size _, by simp [go_sem], by simp [go_sem], by simp [go_sem], by simp [go_sem], h.size, by simp⟩
/-- The result's block when it has been written. -/
theorem RsAt.fin {R : Nat} {w W : World} (h : RsAt R w W) (s t : ByteArray) : ∃ W5, ((W.setCell ⟨R, 0, none⟩ (.string s)).setCell ⟨R, 1, none⟩ (.string t)) = W5 ∧ W5.cell? ⟨R, 0, none⟩ = some (.string s) ∧ W5.cell? ⟨R, 1, none⟩ = some (.string t) ∧ Below w.heap.size w W5 := by
  refine ⟨_, rfl, ?_, ?_, ?_⟩
  · exact (World.cell?_setCell_other _ _ _ _ (by simp)).trans (World.cell?_setCell_same _ _ _ h.r0)
  · exact World.cell?_setCell_same _ _ _ ((World.cell?_setCell_other _ _ _ _ (by simp)).trans h.r1)
  · exact (h.bw.setCell h.le _).setCell h.le _

set_option maxRecDepth 100000 in
set_option maxHeartbeats 2000000 in
theorem Make_q {x y : ByteArray} {w : World} (hi : IOps w) (zx : Sz x) (zy : Sz y) :
    Calls Tryz.prog 110 #[.string x, .string y] w fun e W' => e = .returned (.tuple #[.agg #[.string (qN (makeS x y)), .string (qD (makeS x y))], .int .i64 (qE (makeS x y))]) ∧ Below w.heap.size w W' := by
  have H0 := Lib.hid (RsAt.start (Below.refl _ w) 47)
  have v1 := fun W hk => hi.val zx W hk
  have v2 := fun W hk => hi.val zy W hk
  rw [← numOf_valid] at v1 v2
  have key : ∀ (b : Bool) (W' : World), RsAt w.heap.size w W' → (b = false → ∃ p q, numOf x = some p ∧ numOf y = some q) → (b = true → numOf x = none ∨ numOf y = none) → Calls Tryz.prog 127 #[.pointer (some ⟨W'.heap.size, 0, none⟩), .string x, .string y] (W'.alloc (.cells #[.bool b] 134)) fun e W2 => e = .returned (.tuple #[.agg #[.string (qN (makeS x y)), .string (qD (makeS x y))], .int .i64 (qE (makeS x y))]) ∧ RsAt w.heap.size w W2 := by
    intro b W' hk h1 h2
    have hs := WkAt.start (Below.refl W'.heap.size W') (Nat.le_refl _) b
    cases b with
    | true =>
      rw [makeS_none (h2 rfl)]
      refine (reduced_bad hs (.inl rfl)).mono ?_
      rintro e W2 ⟨rfl, hb⟩
      exact ⟨rfl, hk.below hb⟩
    | false =>
      obtain ⟨p, q, h3, h4⟩ := h1 rfl
      rw [makeS_some h3 h4]
      refine (reduced_q hs (hi.below hk.bw) zx zy (fun _ => ⟨h3, h4⟩)).mono ?_
      rintro e W2 ⟨rfl, hb⟩
      exact ⟨rfl, hk.below hb⟩
  generalize makeS x y = o at key ⊢
  cases h1 : numOf x with
  | none =>
    rw [h1] at v1
    have V1 := Lib.hid v1
    have K := Lib.hid (fun W' hk => key true W' hk (fun k => by cases k) (fun _ => .inl h1))
    clear v1 v2 key h1
    go_enter Tryz.func110, Tryz.ntmps110
    go_wp2_with (first
      | (go_at_call 115; with_reducible refine (V1.out _ H0.out.bw).mono ?_; rintro e w1 ⟨rfl, hb1⟩; have H1 := Lib.hid (H0.out.below hb1); clear hb1)
      | (go_at_call 127; with_reducible refine (K.out _ H1.out).mono ?_; rintro e w2 ⟨rfl, h2⟩; obtain ⟨_, q1, q2, q3, q4, _, _⟩ := id h2; have H2 := Lib.hid h2; clear h2)
      | fail)
    obtain ⟨W5, hW5, p0, p1, hbl⟩ := H2.out.fin (qN o) (qD o)
    rw [hW5]
    clear hW5 q1 q2 q3 q4
    refine bodyPost_ret (v := .tuple #[.agg #[.string (qN o), .string (qD o)], .int .i64 (qE o)]) ?_ rfl ⟨rfl, hbl⟩
    simp [results, Tryz.results110, go_sem, p0, p1, Result.andThen]
  | some p =>
    rw [h1] at v1
    cases h2 : numOf y with
    | none =>
      rw [h2] at v2
      have V1 := Lib.hid v1
      have V2 := Lib.hid v2
      have K := Lib.hid (fun W' hk => key true W' hk (fun k => by cases k) (fun _ => .inr h2))
      clear v1 v2 key h1 h2
      go_enter Tryz.func110, Tryz.ntmps110
      go_wp2_with (first
        | (go_at_call 115; with_reducible refine (V1.out _ H0.out.bw).mono ?_; rintro e w1 ⟨rfl, hb1⟩; have H1 := Lib.hid (H0.out.below hb1); clear hb1)
        | (go_at_call 115; with_reducible refine (V2.out _ H1.out.bw).mono ?_; rintro e w2 ⟨rfl, hb1⟩; have H2 := Lib.hid (H1.out.below hb1); clear hb1)
        | (go_at_call 127; with_reducible refine (K.out _ H2.out).mono ?_; rintro e w3 ⟨rfl, h3⟩; obtain ⟨_, q1, q2, q3, q4, _, _⟩ := id h3; have H3 := Lib.hid h3; clear h3)
        | fail)
      obtain ⟨W5, hW5, p0, p1, hbl⟩ := H3.out.fin (qN o) (qD o)
      rw [hW5]
      clear hW5 q1 q2 q3 q4
      refine bodyPost_ret (v := .tuple #[.agg #[.string (qN o), .string (qD o)], .int .i64 (qE o)]) ?_ rfl ⟨rfl, hbl⟩
      simp [results, Tryz.results110, go_sem, p0, p1, Result.andThen]
    | some q =>
      rw [h2] at v2
      have V1 := Lib.hid v1
      have V2 := Lib.hid v2
      have K := Lib.hid (fun W' hk => key false W' hk (fun _ => ⟨p, q, h1, h2⟩) (fun k => by cases k))
      clear v1 v2 key h1 h2
      go_enter Tryz.func110, Tryz.ntmps110
      go_wp2_with (first
        | (go_at_call 115; with_reducible refine (V1.out _ H0.out.bw).mono ?_; rintro e w1 ⟨rfl, hb1⟩; have H1 := Lib.hid (H0.out.below hb1); clear hb1)
        | (go_at_call 115; with_reducible refine (V2.out _ H1.out.bw).mono ?_; rintro e w2 ⟨rfl, hb1⟩; have H2 := Lib.hid (H1.out.below hb1); clear hb1)
        | (go_at_call 127; with_reducible refine (K.out _ H2.out).mono ?_; rintro e w3 ⟨rfl, h3⟩; obtain ⟨_, q1, q2, q3, q4, _, _⟩ := id h3; have H3 := Lib.hid h3; clear h3)
        | fail)
      obtain ⟨W5, hW5, p0, p1, hbl⟩ := H3.out.fin (qN o) (qD o)
      rw [hW5]
      clear hW5 q1 q2 q3 q4
      refine bodyPost_ret (v := .tuple #[.agg #[.string (qN o), .string (qD o)], .int .i64 (qE o)]) ?_ rfl ⟨rfl, hbl⟩
      simp [results, Tryz.results110, go_sem, p0, p1, Result.andThen]
end Go.Proofs.YtgngepbemgbbeaaGreatDoor

namespace Go.Proofs.YtgngepbemgbbeaaGreatDoor
open Go.RowKit Go.Shelf
attribute [local go_sem] Oper.semAt_some

/-- Two fractions and a result in three blocks, made one behind another. -/
structure OpAt (a1 a2 b1 b2 : ByteArray) (w W : World) : Prop where
  bw : Below w.heap.size w W
  x0 : W.cell? ⟨w.heap.size, 0, none⟩ = some (.string a1)
  x1 : W.cell? ⟨w.heap.size, 1, none⟩ = some (.string a2)
  y0 : W.cell? ⟨w.heap.size + 1, 0, none⟩ = some (.string b1)
  y1 : W.cell? ⟨w.heap.size + 1, 1, none⟩ = some (.string b2)
  r0 : W.cell? ⟨w.heap.size + 1 + 1, 0, none⟩ = some (.string ⟨#[]⟩)
  r1 : W.cell? ⟨w.heap.size + 1 + 1, 1, none⟩ = some (.string ⟨#[]⟩)
  f0 : W.frozen? ⟨w.heap.size + 1 + 1, 0, none⟩ = false
  f1 : W.frozen? ⟨w.heap.size + 1 + 1, 1, none⟩ = false
  sz : w.heap.size + 1 + 1 + 1 ≤ W.heap.size
theorem OpAt.below {a1 a2 b1 b2 : ByteArray} {w W W' : World} (h : OpAt a1 a2 b1 b2 w W) (hb : Below W.heap.size W W') : OpAt a1 a2 b1 b2 w W' := by
  obtain ⟨c, f⟩ := bcell hb
  have hs := h.sz
  have hs' := hb.size
  exact ⟨h.bw.trans (hb.mono (by omega)), (c _ _ (by omega)).trans h.x0, (c _ _ (by omega)).trans h.x1, (c _ _ (by omega)).trans h.y0, (c _ _ (by omega)).trans h.y1, (c _ _ (by omega)).trans h.r0, (c _ _ (by omega)).trans h.r1, (f _ _ (by omega)).trans h.f0, (f _ _ (by omega)).trans h.f1, by omega⟩
theorem OpAt.rs {a1 a2 b1 b2 : ByteArray} {w W : World} (h : OpAt a1 a2 b1 b2 w W) : RsAt (w.heap.size + 1 + 1) w W := ⟨h.bw, h.r0, h.r1, h.f0, h.f1, by omega, by have := h.sz; omega⟩
theorem OpAt.start (w : World) (a1 a2 b1 b2 : ByteArray) (t : TypeId) : OpAt a1 a2 b1 b2 w (((w.alloc (.cells #[.string a1, .string a2] t)).alloc (.cells #[.string b1, .string b2] t)).alloc (.cells #[.string ⟨#[]⟩, .string ⟨#[]⟩] t)) := by
  refine ⟨(((Below.refl _ _).alloc (Nat.le_refl _) _).alloc (by simp) _).alloc (by simp; omega) _, ?_, ?_, ?_, ?_, ?_, ?_, ?_, ?_, by simp⟩ <;> simp [go_sem]
/-- The same, with a calculation in the block behind them. -/
structure OwAt (a1 a2 b1 b2 : ByteArray) (b : Bool) (w W0 W : World) : Prop where
  op : OpAt a1 a2 b1 b2 w W0
  wk : WkAt W0.heap.size (w.heap.size + 1 + 1 + 1) b W0 W
  size : W0.heap.size = w.heap.size + 1 + 1 + 1
theorem OwAt.at {a1 a2 b1 b2 : ByteArray} {b : Bool} {w W0 W : World} (h : OwAt a1 a2 b1 b2 b w W0 W) : OpAt a1 a2 b1 b2 w W := h.op.below h.wk.bw
theorem OwAt.to {a1 a2 b1 b2 : ByteArray} {b b' : Bool} {w W0 W W' V : World} (h : OwAt a1 a2 b1 b2 b w W0 W) (k : WkTo W0.heap.size (w.heap.size + 1 + 1 + 1) b' W0 V W') : OwAt a1 a2 b1 b2 b' w W0 W' := ⟨h.op, k.wk, h.size⟩
theorem OwAt.drew {a1 a2 b1 b2 : ByteArray} {b : Bool} {w W0 W : World} (h : OwAt a1 a2 b1 b2 b w W0 W) : OwAt a1 a2 b1 b2 b w W0 W.drew := ⟨h.op, h.wk.drew, h.size⟩
theorem OwAt.alloc {a1 a2 b1 b2 : ByteArray} {b : Bool} {w W0 W : World} (h : OwAt a1 a2 b1 b2 b w W0 W) (o : Obj) : OwAt a1 a2 b1 b2 b w W0 (W.alloc o) := ⟨h.op, h.wk.alloc o, h.size⟩
theorem OwAt.ops {a1 a2 b1 b2 : ByteArray} {b : Bool} {w W0 W : World} (h : OwAt a1 a2 b1 b2 b w W0 W) (hi : IOps w) : IOps W := hi.below h.at.bw
theorem OwAt.start (w : World) (a1 a2 b1 b2 : ByteArray) (t : TypeId) (b : Bool) : ∃ W0, OwAt a1 a2 b1 b2 b w W0 ((((w.alloc (.cells #[.string a1, .string a2] t)).alloc (.cells #[.string b1, .string b2] t)).alloc (.cells #[.string ⟨#[]⟩, .string ⟨#[]⟩] t)).alloc (.cells #[.bool b] 134)) := by
  refine ⟨_, OpAt.start w a1 a2 b1 b2 t, ?_, by simp⟩
  have := WkAt.start (Below.refl _ (((w.alloc (.cells #[.string a1, .string a2] t)).alloc (.cells #[.string b1, .string b2] t)).alloc (.cells #[.string ⟨#[]⟩, .string ⟨#[]⟩] t))) (Nat.le_refl _) b
  have e : (((w.alloc (.cells #[.string a1, .string a2] t)).alloc (.cells #[.string b1, .string b2] t)).alloc (.cells #[.string ⟨#[]⟩, .string ⟨#[]⟩] t)).heap.size = w.heap.size + 1 + 1 + 1 := by simp
  rw [e] at this ⊢
  exact this
theorem FrAt.two {a1 a2 b1 b2 : ByteArray} (W : World) (t : TypeId) (z1 : Sz a1) (z2 : Sz a2) (z3 : Sz b1) (z4 : Sz b2) : FrAt W.heap.size [(a1, a2), (b1, b2)] (W.alloc (.cells #[.string a1, .string a2, .string b1, .string b2] t)) := by
  refine ⟨fun k h => ?_, by simp, fun p hp => ?_⟩
  · rcases k with _ | _ | k
    · exact ⟨by simp [go_sem], by simp [go_sem]⟩
    · exact ⟨by simp [go_sem], by simp [go_sem]⟩
    · simp at h; omega
  · simp only [List.mem_cons, List.not_mem_nil, or_false] at hp
    rcases hp with rfl | rfl
    · exact ⟨z1, z2⟩
    · exact ⟨z3, z4⟩
theorem ow_check {a1 a2 b1 b2 : ByteArray} {b : Bool} {w W0 W : World} (hi : IOps w) (z1 : Sz a1) (z2 : Sz a2) (z3 : Sz b1) (z4 : Sz b2) (h : OwAt a1 a2 b1 b2 b w W0 W) (t : TypeId) (S : Nat) (hS : W.heap.size = S) :
    Calls Tryz.prog 124 #[.pointer (some ⟨w.heap.size + 1 + 1 + 1, 0, none⟩), .slice (some ⟨S, 0, none⟩) 2 2] (W.alloc (.cells #[.string a1, .string a2, .string b1, .string b2] t)) fun e W' => (∃ v, e = .returned v) ∧ OwAt a1 a2 b1 b2 (chkB b [(a1, a2), (b1, b2)]) w W0 W' := by
  subst hS
  refine (check_q (h.wk.alloc _) (hi.below h.op.bw) (FrAt.two W t z1 z2 z3 z4) h.wk.sz (by simp)).mono ?_
  rintro e W' ⟨he, h2⟩
  exact ⟨he, h.to h2⟩
theorem ow_mul {a1 a2 b1 b2 x y : ByteArray} {b : Bool} {w W0 W : World} (hi : IOps w) (zx : Sz x) (zy : Sz y) (h : OwAt a1 a2 b1 b2 b w W0 W) :
    Calls Tryz.prog 126 #[.pointer (some ⟨w.heap.size + 1 + 1 + 1, 0, none⟩), .string x, .string y] W fun e W' => e = .returned (.string (stS b (mulO x y))) ∧ OwAt a1 a2 b1 b2 (stB b (mulO x y)) w W0 W' := by
  refine (mul_q zx zy h.wk (h.ops hi)).mono ?_
  rintro e W' ⟨he, h2⟩
  exact ⟨he, h.to h2⟩
theorem ow_reduced {a1 a2 b1 b2 x y : ByteArray} {p q : Int} {o : Option Rat} {b : Bool} {w W0 W : World} (hi : IOps w) (zx : Sz x) (zy : Sz y) (h : OwAt a1 a2 b1 b2 b w W0 W) (hx : b = false → numOf x = some p ∧ numOf y = some q) (ho : (if b = true then none else makeR p q) = o) :
    Calls Tryz.prog 127 #[.pointer (some ⟨w.heap.size + 1 + 1 + 1, 0, none⟩), .string x, .string y] W fun e W' => e = .returned (.tuple #[.agg #[.string (qN o), .string (qD o)], .int .i64 (qE o)]) ∧ RsAt (w.heap.size + 1 + 1) w W' := by
  subst ho
  refine (reduced_q h.wk (hi.below h.op.bw) zx zy hx).mono ?_
  rintro e W' ⟨he, h2⟩
  exact ⟨he, (h.op.below h2).rs⟩

set_option maxRecDepth 100000 in
set_option maxHeartbeats 2000000 in
/-- The walk of a product: what is asked of its plain part lies in hx and ho. -/
theorem Mul_w {a1 a2 b1 b2 : ByteArray} {o : Option Rat} {p q : Int} {w : World} (hi : IOps w) (z1 : Sz a1) (z2 : Sz a2) (z3 : Sz b1) (z4 : Sz b2)
    (B1 B2 B3 : Bool) (S1 S2 : ByteArray) (e1 : B1 = chkB false [(a1, a2), (b1, b2)]) (e2 : S1 = stS B1 (mulO a1 b1)) (e3 : B2 = stB B1 (mulO a1 b1)) (e4 : S2 = stS B2 (mulO a2 b2)) (e5 : B3 = stB B2 (mulO a2 b2))
    (hx : B3 = false → numOf S1 = some p ∧ numOf S2 = some q) (ho : (if B3 = true then none else makeR p q) = o) :
    Calls Tryz.prog 141 #[.agg #[.string a1, .string a2], .agg #[.string b1, .string b2]] w fun e W' => e = .returned (.tuple #[.agg #[.string (qN o), .string (qD o)], .int .i64 (qE o)]) ∧ Below w.heap.size w W' := by
  obtain ⟨W0, hst⟩ := OwAt.start w a1 a2 b1 b2 47 false
  have zS1 : Sz S1 := by rw [e2]; exact stS_sz _ _
  have zS2 : Sz S2 := by rw [e4]; exact stS_sz _ _
  have kc := Lib.hid (fun W (h : OwAt a1 a2 b1 b2 false w W0 W) (t : TypeId) (S : Nat) (hS : W.heap.size = S) => by have := ow_check hi z1 z2 z3 z4 h t S hS; rw [← e1] at this; exact this)
  have k1 := Lib.hid (fun W (h : OwAt a1 a2 b1 b2 B1 w W0 W) => by have := ow_mul hi z1 z3 h; rw [← e2, ← e3] at this; exact this)
  have k2 := Lib.hid (fun W (h : OwAt a1 a2 b1 b2 B2 w W0 W) => by have := ow_mul hi z2 z4 h; rw [← e4, ← e5] at this; exact this)
  have kr := Lib.hid (fun W (h : OwAt a1 a2 b1 b2 B3 w W0 W) => ow_reduced hi zS1 zS2 h hx ho)
  clear hi z1 z2 z3 z4 zS1 zS2 e1 e2 e3 e4 e5 hx ho
  have H0 := Lib.hid hst
  clear hst
  go_enter Tryz.func141, Tryz.ntmps141
  go_wp2_with (first
    | (go_at_call 124; with_reducible refine (kc.out _ H0.out _ _ (by simp)).mono ?_; rintro e w1 ⟨⟨v, rfl⟩, h1⟩; obtain ⟨_, x0, x1, y0, y1, _⟩ := h1.at; have H1 := Lib.hid h1; clear h1)
    | (go_at_call 126; with_reducible refine (k1.out _ H1.out).mono ?_; rintro e w2 ⟨rfl, h2⟩; obtain ⟨_, x0', x1', y0', y1', _⟩ := h2.at; have H2 := Lib.hid h2; clear h2)
    | (go_at_call 126; with_reducible refine (k2.out _ H2.out).mono ?_; rintro e w3 ⟨rfl, h3⟩; have H3 := Lib.hid h3; clear h3)
    | (go_at_call 127; with_reducible refine (kr.out _ H3.out).mono ?_; rintro e w4 ⟨rfl, h4⟩; obtain ⟨_, q1, q2, q3, q4, _, _⟩ := id h4; have H4 := Lib.hid h4; clear h4)
    | fail)
  obtain ⟨W5, hW5, p0, p1, hbl⟩ := H4.out.fin (qN o) (qD o)
  rw [hW5]
  clear hW5 q1 q2 q3 q4
  refine bodyPost_ret (v := .tuple #[.agg #[.string (qN o), .string (qD o)], .int .i64 (qE o)]) ?_ rfl ⟨rfl, hbl⟩
  simp [results, Tryz.results141, go_sem, p0, p1, Result.andThen]

set_option maxRecDepth 100000 in
set_option maxHeartbeats 2000000 in
/-- The walk of a quotient: what is asked of its plain part lies in hx and ho. -/
theorem Div_w {a1 a2 b1 b2 : ByteArray} {o : Option Rat} {p q : Int} {w : World} (hi : IOps w) (z1 : Sz a1) (z2 : Sz a2) (z3 : Sz b1) (z4 : Sz b2)
    (B1 B2 B3 : Bool) (S1 S2 : ByteArray) (e1 : B1 = chkB false [(a1, a2), (b1, b2)]) (e2 : S1 = stS B1 (mulO a1 b2)) (e3 : B2 = stB B1 (mulO a1 b2)) (e4 : S2 = stS B2 (mulO a2 b1)) (e5 : B3 = stB B2 (mulO a2 b1))
    (hx : B3 = false → numOf S1 = some p ∧ numOf S2 = some q) (ho : (if B3 = true then none else makeR p q) = o) :
    Calls Tryz.prog 140 #[.agg #[.string a1, .string a2], .agg #[.string b1, .string b2]] w fun e W' => e = .returned (.tuple #[.agg #[.string (qN o), .string (qD o)], .int .i64 (qE o)]) ∧ Below w.heap.size w W' := by
  obtain ⟨W0, hst⟩ := OwAt.start w a1 a2 b1 b2 47 false
  have zS1 : Sz S1 := by rw [e2]; exact stS_sz _ _
  have zS2 : Sz S2 := by rw [e4]; exact stS_sz _ _
  have kc := Lib.hid (fun W (h : OwAt a1 a2 b1 b2 false w W0 W) (t : TypeId) (S : Nat) (hS : W.heap.size = S) => by have := ow_check hi z1 z2 z3 z4 h t S hS; rw [← e1] at this; exact this)
  have k1 := Lib.hid (fun W (h : OwAt a1 a2 b1 b2 B1 w W0 W) => by have := ow_mul hi z1 z4 h; rw [← e2, ← e3] at this; exact this)
  have k2 := Lib.hid (fun W (h : OwAt a1 a2 b1 b2 B2 w W0 W) => by have := ow_mul hi z2 z3 h; rw [← e4, ← e5] at this; exact this)
  have kr := Lib.hid (fun W (h : OwAt a1 a2 b1 b2 B3 w W0 W) => ow_reduced hi zS1 zS2 h hx ho)
  clear hi z1 z2 z3 z4 zS1 zS2 e1 e2 e3 e4 e5 hx ho
  have H0 := Lib.hid hst
  clear hst
  go_enter Tryz.func140, Tryz.ntmps140
  go_wp2_with (first
    | (go_at_call 124; with_reducible refine (kc.out _ H0.out _ _ (by simp)).mono ?_; rintro e w1 ⟨⟨v, rfl⟩, h1⟩; obtain ⟨_, x0, x1, y0, y1, _⟩ := h1.at; have H1 := Lib.hid h1; clear h1)
    | (go_at_call 126; with_reducible refine (k1.out _ H1.out).mono ?_; rintro e w2 ⟨rfl, h2⟩; obtain ⟨_, x0', x1', y0', y1', _⟩ := h2.at; have H2 := Lib.hid h2; clear h2)
    | (go_at_call 126; with_reducible refine (k2.out _ H2.out).mono ?_; rintro e w3 ⟨rfl, h3⟩; have H3 := Lib.hid h3; clear h3)
    | (go_at_call 127; with_reducible refine (kr.out _ H3.out).mono ?_; rintro e w4 ⟨rfl, h4⟩; obtain ⟨_, q1, q2, q3, q4, _, _⟩ := id h4; have H4 := Lib.hid h4; clear h4)
    | fail)
  obtain ⟨W5, hW5, p0, p1, hbl⟩ := H4.out.fin (qN o) (qD o)
  rw [hW5]
  clear hW5 q1 q2 q3 q4
  refine bodyPost_ret (v := .tuple #[.agg #[.string (qN o), .string (qD o)], .int .i64 (qE o)]) ?_ rfl ⟨rfl, hbl⟩
  simp [results, Tryz.results140, go_sem, p0, p1, Result.andThen]

theorem ow_do {a1 a2 b1 b2 : ByteArray} {b : Bool} {w W0 W : World} (hi : IOps w) (K : Nat) (O : ByteArray → ByteArray → Option Int)
    (hent : ∀ (args : Array Value) (w : World), (callFunc K args).run Tryz.prog w = .ok (.enter K args) w) (x y : ByteArray)
    (hK : ∀ (W : World), IOps W → Calls Tryz.prog K #[.string x, .string y] W fun e W' => e = .returned (.tuple #[.string (opS (O x y)), .int .i64 (opN (O x y))]) ∧ Below W.heap.size W W') (h : OwAt a1 a2 b1 b2 b w W0 W) :
    Calls Tryz.prog 125 #[.pointer (some ⟨w.heap.size + 1 + 1 + 1, 0, none⟩), .func (.func K) #[] #[], .string x, .string y] W fun e W' => e = .returned (.string (stS b (O x y))) ∧ OwAt a1 a2 b1 b2 (stB b (O x y)) w W0 W' := by
  refine (do_q K (O x y) x y h.wk hent (fun _ => hK W (h.ops hi))).mono ?_
  rintro e W' ⟨he, h2⟩
  exact ⟨he, h.to h2⟩

set_option maxRecDepth 100000 in
set_option maxHeartbeats 2000000 in
/-- The walk of a sum or a difference: what is asked of its plain part lies in hx and ho. -/
theorem sum_w {a1 a2 b1 b2 : ByteArray} {o : Option Rat} {p q : Int} {w : World} (hi : IOps w) (z1 : Sz a1) (z2 : Sz a2) (z3 : Sz b1) (z4 : Sz b2) (K : Nat) (O : ByteArray → ByteArray → Option Int)
    (hent : ∀ (args : Array Value) (w : World), (callFunc K args).run Tryz.prog w = .ok (.enter K args) w)
    (hK : ∀ (x y : ByteArray) (W : World), Sz x → Sz y → IOps W → Calls Tryz.prog K #[.string x, .string y] W fun e W' => e = .returned (.tuple #[.string (opS (O x y)), .int .i64 (opN (O x y))]) ∧ Below W.heap.size W W')
    (B1 B2 B3 B4 B5 : Bool) (S1 S2 S3 S4 : ByteArray) (e1 : B1 = chkB false [(a1, a2), (b1, b2)]) (e2 : S1 = stS B1 (mulO a1 b2)) (e3 : B2 = stB B1 (mulO a1 b2)) (e4 : S2 = stS B2 (mulO b1 a2)) (e5 : B3 = stB B2 (mulO b1 a2))
    (e6 : S3 = stS B3 (O S1 S2)) (e7 : B4 = stB B3 (O S1 S2)) (e8 : S4 = stS B4 (mulO a2 b2)) (e9 : B5 = stB B4 (mulO a2 b2))
    (hx : B5 = false → numOf S3 = some p ∧ numOf S4 = some q) (ho : (if B5 = true then none else makeR p q) = o) :
    Calls Tryz.prog 85 #[.func (.func K) #[] #[], .agg #[.string a1, .string a2], .agg #[.string b1, .string b2]] w fun e W' => e = .returned (.tuple #[.agg #[.string (qN o), .string (qD o)], .int .i64 (qE o)]) ∧ Below w.heap.size w W' := by
  obtain ⟨W0, hst⟩ := OwAt.start w a1 a2 b1 b2 47 false
  have zS1 : Sz S1 := by rw [e2]; exact stS_sz _ _
  have zS2 : Sz S2 := by rw [e4]; exact stS_sz _ _
  have zS3 : Sz S3 := by rw [e6]; exact stS_sz _ _
  have zS4 : Sz S4 := by rw [e8]; exact stS_sz _ _
  have kc := Lib.hid (fun W (h : OwAt a1 a2 b1 b2 false w W0 W) (t : TypeId) (S : Nat) (hS : W.heap.size = S) => by have := ow_check hi z1 z2 z3 z4 h t S hS; rw [← e1] at this; exact this)
  have k1 := Lib.hid (fun W (h : OwAt a1 a2 b1 b2 B1 w W0 W) => by have := ow_mul hi z1 z4 h; rw [← e2, ← e3] at this; exact this)
  have k2 := Lib.hid (fun W (h : OwAt a1 a2 b1 b2 B2 w W0 W) => by have := ow_mul hi z3 z2 h; rw [← e4, ← e5] at this; exact this)
  have k3 := Lib.hid (fun W (h : OwAt a1 a2 b1 b2 B3 w W0 W) => by have := ow_do hi K O hent S1 S2 (fun W hW => hK S1 S2 W zS1 zS2 hW) h; rw [← e6, ← e7] at this; exact this)
  have k4 := Lib.hid (fun W (h : OwAt a1 a2 b1 b2 B4 w W0 W) => by have := ow_mul hi z2 z4 h; rw [← e8, ← e9] at this; exact this)
  have kr := Lib.hid (fun W (h : OwAt a1 a2 b1 b2 B5 w W0 W) => ow_reduced hi zS3 zS4 h hx ho)
  clear hi z1 z2 z3 z4 zS1 zS2 zS3 zS4 e1 e2 e3 e4 e5 e6 e7 e8 e9 hx ho hent hK
  have H0 := Lib.hid hst
  clear hst
  go_enter Tryz.func85, Tryz.ntmps85
  go_wp2_with (first
    | (go_at_call 124; with_reducible refine (kc.out _ H0.out _ _ (by simp)).mono ?_; rintro e w1 ⟨⟨v, rfl⟩, h1⟩; obtain ⟨_, x0, x1, y0, y1, _⟩ := h1.at; have H1 := Lib.hid h1; clear h1)
    | fail)
  go_region_held3 (fun W => W.cell? ⟨w.heap.size, 0, none⟩ = some (.string a1) ∧ W.cell? ⟨w.heap.size, 1, none⟩ = some (.string a2) ∧ W.cell? ⟨w.heap.size + 1, 0, none⟩ = some (.string b1) ∧ W.cell? ⟨w.heap.size + 1, 1, none⟩ = some (.string b2)) (first | exact ⟨H4.out.at.x0, H4.out.at.x1, H4.out.at.y0, H4.out.at.y1⟩ | exact ⟨H3.out.at.x0, H3.out.at.x1, H3.out.at.y0, H3.out.at.y1⟩ | exact ⟨H2.out.at.x0, H2.out.at.x1, H2.out.at.y0, H2.out.at.y1⟩ | exact ⟨H1.out.at.x0, H1.out.at.x1, H1.out.at.y0, H1.out.at.y1⟩) (first
    | (go_at_call 126; refine (k1.out _ (by exact H1.out.drew)).mono ?_; rintro e w2 ⟨rfl, h2⟩; have H2 := Lib.hid h2; clear h2)
    | (go_at_call 126; refine (k2.out _ (by exact H2.out)).mono ?_; rintro e w3 ⟨rfl, h3⟩; have H3 := Lib.hid h3; clear h3)
    | (go_at_call 125; refine (k3.out _ (by exact H3.out)).mono ?_; rintro e w4 ⟨rfl, h4⟩; have H4 := Lib.hid h4; clear h4))
  all_goals (
    have h4 := H4.out.at
    obtain ⟨_, x0, x1, y0, y1, _⟩ := h4
    go_wp2_with (first
      | (go_at_call 126; with_reducible refine (k4.out _ H4.out).mono ?_; rintro e w5 ⟨rfl, h5⟩; have H5 := Lib.hid h5; clear h5)
      | (go_at_call 127; with_reducible refine (kr.out _ H5.out).mono ?_; rintro e w6 ⟨rfl, h6⟩; obtain ⟨_, q1, q2, q3, q4, _, _⟩ := id h6; have H6 := Lib.hid h6; clear h6)
      | fail)
    obtain ⟨W5, hW5, p0, p1, hbl⟩ := H6.out.fin (qN o) (qD o)
    rw [hW5]
    clear hW5 q1 q2 q3 q4
    refine bodyPost_ret (v := .tuple #[.agg #[.string (qN o), .string (qD o)], .int .i64 (qE o)]) ?_ rfl ⟨rfl, hbl⟩
    simp [results, Tryz.results85, go_sem, p0, p1, Result.andThen])
end Go.Proofs.YtgngepbemgbbeaaGreatDoor

namespace Go.Proofs.YtgngepbemgbbeaaGreatDoor
open Go.RowKit Go.Shelf
attribute [local go_sem] Oper.semAt_some

theorem stB_eq (b : Bool) (z : Int) : stB b (some z) = (b || !small z) := by
  by_cases h : small z = true
  · rw [h]
    cases b
    · rw [stB_small h]; rfl
    · rfl
  · rw [stB_great h]
    simp [h]
theorem st_num {b : Bool} {z : Int} (h : stB b (some z) = false) : b = false ∧ small z = true ∧ stS b (some z) = str z ∧ numOf (stS b (some z)) = some z := by
  rw [stB_eq] at h
  simp only [Bool.or_eq_false_iff, Bool.not_eq_false'] at h
  obtain ⟨rfl, h2⟩ := h
  refine ⟨rfl, h2, ?_, ?_⟩
  · rw [stS_false, opS_small h2]
  · rw [stS_false, opS_small h2, numOf_str, if_pos h2]
theorem ratO_num {n d : ByteArray} {r : Rat} (h : ratO n d = some r) : numOf n = some r.num ∧ numOf d = some (r.den : Int) := by
  obtain ⟨e1, e2, h1, h2⟩ := ratO_some h
  rw [e1, e2, numOf_str, numOf_str, if_pos h1, if_pos h2]
  exact ⟨rfl, rfl⟩
theorem chk_two {a1 a2 b1 b2 : ByteArray} (h : ratO a1 a2 = none ∨ ratO b1 b2 = none) : chkB false [(a1, a2), (b1, b2)] = true := by
  unfold chkB vR
  rcases h with h | h <;> simp [h]
theorem chk_two' {a1 a2 b1 b2 : ByteArray} {a b : Rat} (ha : ratO a1 a2 = some a) (hb : ratO b1 b2 = some b) : chkB false [(a1, a2), (b1, b2)] = false := by
  unfold chkB vR
  simp [ha, hb]

theorem Mul_q {a1 a2 b1 b2 : ByteArray} {w : World} (hi : IOps w) (z1 : Sz a1) (z2 : Sz a2) (z3 : Sz b1) (z4 : Sz b2) :
    Calls Tryz.prog 141 #[.agg #[.string a1, .string a2], .agg #[.string b1, .string b2]] w fun e W' => e = .returned (.tuple #[.agg #[.string (qN (op2 mulR a1 a2 b1 b2)), .string (qD (op2 mulR a1 a2 b1 b2))], .int .i64 (qE (op2 mulR a1 a2 b1 b2))]) ∧ Below w.heap.size w W' := by
  by_cases hn : ratO a1 a2 = none ∨ ratO b1 b2 = none
  · have hc := chk_two hn
    refine Mul_w (p := 0) (q := 0) hi z1 z2 z3 z4 true true true _ _ hc.symm rfl rfl rfl rfl (fun k => by cases k) ?_
    rw [op2_none hn]
    rfl
  · obtain ⟨a, ha⟩ : ∃ a, ratO a1 a2 = some a := Option.ne_none_iff_exists'.1 (fun h => hn (.inl h))
    obtain ⟨b, hb⟩ : ∃ b, ratO b1 b2 = some b := Option.ne_none_iff_exists'.1 (fun h => hn (.inr h))
    obtain ⟨m1, m2⟩ := ratO_num ha
    obtain ⟨m3, m4⟩ := ratO_num hb
    have o1 : mulO a1 b1 = some (a.num * b.num) := by unfold mulO; rw [m1, m3]
    have o2 : mulO a2 b2 = some ((a.den : Int) * b.den) := by unfold mulO; rw [m2, m4]
    have hc := chk_two' ha hb
    refine Mul_w (p := a.num * b.num) (q := (a.den : Int) * b.den) hi z1 z2 z3 z4 false _ _ _ _ hc.symm rfl rfl rfl rfl ?_ ?_
    · rw [o1, o2]
      intro h
      obtain ⟨h1, _, _, k2⟩ := st_num h
      obtain ⟨_, _, _, k1⟩ := st_num h1
      exact ⟨k1, k2⟩
    · rw [op2_some ha hb, mulR_make, o1, o2, stB_eq, stB_eq]
      cases small (a.num * b.num) <;> cases small ((a.den : Int) * b.den) <;> rfl
theorem Div_q {a1 a2 b1 b2 : ByteArray} {w : World} (hi : IOps w) (z1 : Sz a1) (z2 : Sz a2) (z3 : Sz b1) (z4 : Sz b2) :
    Calls Tryz.prog 140 #[.agg #[.string a1, .string a2], .agg #[.string b1, .string b2]] w fun e W' => e = .returned (.tuple #[.agg #[.string (qN (op2 divR a1 a2 b1 b2)), .string (qD (op2 divR a1 a2 b1 b2))], .int .i64 (qE (op2 divR a1 a2 b1 b2))]) ∧ Below w.heap.size w W' := by
  by_cases hn : ratO a1 a2 = none ∨ ratO b1 b2 = none
  · have hc := chk_two hn
    refine Div_w (p := 0) (q := 0) hi z1 z2 z3 z4 true true true _ _ hc.symm rfl rfl rfl rfl (fun k => by cases k) ?_
    rw [op2_none hn]
    rfl
  · obtain ⟨a, ha⟩ : ∃ a, ratO a1 a2 = some a := Option.ne_none_iff_exists'.1 (fun h => hn (.inl h))
    obtain ⟨b, hb⟩ : ∃ b, ratO b1 b2 = some b := Option.ne_none_iff_exists'.1 (fun h => hn (.inr h))
    obtain ⟨m1, m2⟩ := ratO_num ha
    obtain ⟨m3, m4⟩ := ratO_num hb
    have o1 : mulO a1 b2 = some (a.num * b.den) := by unfold mulO; rw [m1, m4]
    have o2 : mulO a2 b1 = some ((a.den : Int) * b.num) := by unfold mulO; rw [m2, m3]
    have hc := chk_two' ha hb
    refine Div_w (p := a.num * b.den) (q := (a.den : Int) * b.num) hi z1 z2 z3 z4 false _ _ _ _ hc.symm rfl rfl rfl rfl ?_ ?_
    · rw [o1, o2]
      intro h
      obtain ⟨h1, _, _, k2⟩ := st_num h
      obtain ⟨_, _, _, k1⟩ := st_num h1
      exact ⟨k1, k2⟩
    · rw [op2_some ha hb, divR_make, o1, o2, stB_eq, stB_eq]
      cases small (a.num * b.den) <;> cases small ((a.den : Int) * b.num) <;> rfl
/-- Sums and differences, by what the operation on integers answers. -/
theorem sum_q (K : Nat) (O : ByteArray → ByteArray → Option Int) (f : Int → Int → Int) (F : Rat → Rat → Option Rat)
    (hO : ∀ (x y : ByteArray) (p q : Int), numOf x = some p → numOf y = some q → O x y = some (f p q))
    (hF : ∀ a b : Rat, F a b = if small (a.num * b.den) = true ∧ small (b.num * a.den) = true ∧ small (f (a.num * b.den) (b.num * a.den)) = true ∧ small ((a.den : Int) * b.den) = true then makeR (f (a.num * b.den) (b.num * a.den)) (a.den * b.den) else none)
    (hent : ∀ (args : Array Value) (w : World), (callFunc K args).run Tryz.prog w = .ok (.enter K args) w)
    (hK : ∀ (x y : ByteArray) (W : World), Sz x → Sz y → IOps W → Calls Tryz.prog K #[.string x, .string y] W fun e W' => e = .returned (.tuple #[.string (opS (O x y)), .int .i64 (opN (O x y))]) ∧ Below W.heap.size W W')
    {a1 a2 b1 b2 : ByteArray} {w : World} (hi : IOps w) (z1 : Sz a1) (z2 : Sz a2) (z3 : Sz b1) (z4 : Sz b2) :
    Calls Tryz.prog 85 #[.func (.func K) #[] #[], .agg #[.string a1, .string a2], .agg #[.string b1, .string b2]] w fun e W' => e = .returned (.tuple #[.agg #[.string (qN (op2 F a1 a2 b1 b2)), .string (qD (op2 F a1 a2 b1 b2))], .int .i64 (qE (op2 F a1 a2 b1 b2))]) ∧ Below w.heap.size w W' := by
  by_cases hn : ratO a1 a2 = none ∨ ratO b1 b2 = none
  · have hc := chk_two hn
    refine sum_w (p := 0) (q := 0) hi z1 z2 z3 z4 K O hent hK true true true true true _ _ _ _ hc.symm rfl rfl rfl rfl rfl rfl rfl rfl (fun k => by cases k) ?_
    rw [op2_none hn]
    rfl
  · obtain ⟨a, ha⟩ : ∃ a, ratO a1 a2 = some a := Option.ne_none_iff_exists'.1 (fun h => hn (.inl h))
    obtain ⟨b, hb⟩ : ∃ b, ratO b1 b2 = some b := Option.ne_none_iff_exists'.1 (fun h => hn (.inr h))
    obtain ⟨m1, m2⟩ := ratO_num ha
    obtain ⟨m3, m4⟩ := ratO_num hb
    have o1 : mulO a1 b2 = some (a.num * b.den) := by unfold mulO; rw [m1, m4]
    have o2 : mulO b1 a2 = some (b.num * a.den) := by unfold mulO; rw [m3, m2]
    have o4 : mulO a2 b2 = some ((a.den : Int) * b.den) := by unfold mulO; rw [m2, m4]
    have hc := chk_two' ha hb
    have key : ∃ B4 : Bool, stB (stB (stB false (mulO a1 b2)) (mulO b1 a2)) (O (stS false (mulO a1 b2)) (stS (stB false (mulO a1 b2)) (mulO b1 a2))) = B4 ∧ (B4 = false → small (a.num * b.den) = true ∧ small (b.num * a.den) = true ∧ small (f (a.num * b.den) (b.num * a.den)) = true ∧ numOf (stS (stB (stB false (mulO a1 b2)) (mulO b1 a2)) (O (stS false (mulO a1 b2)) (stS (stB false (mulO a1 b2)) (mulO b1 a2)))) = some (f (a.num * b.den) (b.num * a.den))) ∧ (B4 = true → ¬ (small (a.num * b.den) = true ∧ small (b.num * a.den) = true ∧ small (f (a.num * b.den) (b.num * a.den)) = true)) := by
      rw [o1, o2]
      by_cases h1 : small (a.num * b.den) = true
      · by_cases h2 : small (b.num * a.den) = true
        · have e1 : stB false (some (a.num * b.den)) = false := stB_small h1
          have e2 : stB false (some (b.num * a.den)) = false := stB_small h2
          obtain ⟨_, _, _, k1⟩ := st_num e1
          obtain ⟨_, _, _, k2⟩ := st_num e2
          rw [e1, e2, hO _ _ _ _ k1 k2]
          by_cases h3 : small (f (a.num * b.den) (b.num * a.den)) = true
          · exact ⟨false, stB_small h3, fun _ => ⟨h1, h2, h3, (st_num (stB_small h3)).2.2.2⟩, fun k => (nomatch k)⟩
          · exact ⟨true, stB_great h3 _, fun k => (nomatch k), fun _ k => h3 k.2.2⟩
        · refine ⟨true, ?_, fun k => (nomatch k), fun _ k => h2 k.2.1⟩
          rw [stB_great h2]
          rfl
      · refine ⟨true, ?_, fun k => (nomatch k), fun _ k => h1 k.1⟩
        rw [stB_great h1]
        rfl
    obtain ⟨B4, hB4, hy, hno⟩ := key
    refine sum_w (p := f (a.num * b.den) (b.num * a.den)) (q := (a.den : Int) * b.den) hi z1 z2 z3 z4 K O hent hK false _ _ B4 _ _ _ _ _ hc.symm rfl rfl rfl rfl rfl hB4.symm rfl rfl ?_ ?_
    · rw [o4]
      intro h
      obtain ⟨h1, _, _, k2⟩ := st_num h
      exact ⟨(hy h1).2.2.2, k2⟩
    · rw [op2_some ha hb, hF, o4, stB_eq]
      cases B4 with
      | true =>
        refine Eq.trans (if_pos (by rfl)) ?_
        exact (if_neg (fun k => hno rfl ⟨k.1, k.2.1, k.2.2.1⟩)).symm
      | false =>
        obtain ⟨h1, h2, h3, _⟩ := hy rfl
        by_cases h4 : small ((a.den : Int) * b.den) = true
        · refine Eq.trans (if_neg (by rw [h4]; decide)) ?_
          exact (if_pos ⟨h1, h2, h3, h4⟩).symm
        · refine Eq.trans (if_pos (by simp [h4])) ?_
          exact (if_neg (fun k => h4 k.2.2.2)).symm
theorem sumA {a1 a2 b1 b2 : ByteArray} {w : World} (hi : IOps w) (z1 : Sz a1) (z2 : Sz a2) (z3 : Sz b1) (z4 : Sz b2) :
    Calls Tryz.prog 85 #[.func (.func 86) #[] #[], .agg #[.string a1, .string a2], .agg #[.string b1, .string b2]] w fun e W' => e = .returned (.tuple #[.agg #[.string (qN (op2 addR a1 a2 b1 b2)), .string (qD (op2 addR a1 a2 b1 b2))], .int .i64 (qE (op2 addR a1 a2 b1 b2))]) ∧ Below w.heap.size w W' :=
  sum_q 86 addO (fun p q => p + q) addR (fun x y p q h1 h2 => by unfold addO; rw [h1, h2]) addR_make (enters_of Tryz.func86 (by kernel_rfl) rfl) (fun x y W zx zy h => h.add zx zy W (Below.refl _ _)) hi z1 z2 z3 z4
theorem sumS {a1 a2 b1 b2 : ByteArray} {w : World} (hi : IOps w) (z1 : Sz a1) (z2 : Sz a2) (z3 : Sz b1) (z4 : Sz b2) :
    Calls Tryz.prog 85 #[.func (.func 139) #[] #[], .agg #[.string a1, .string a2], .agg #[.string b1, .string b2]] w fun e W' => e = .returned (.tuple #[.agg #[.string (qN (op2 subR a1 a2 b1 b2)), .string (qD (op2 subR a1 a2 b1 b2))], .int .i64 (qE (op2 subR a1 a2 b1 b2))]) ∧ Below w.heap.size w W' :=
  sum_q 139 subO (fun p q => p - q) subR (fun x y p q h1 h2 => by unfold subO; rw [h1, h2]) subR_make (enters_of Tryz.func139 (by kernel_rfl) rfl) (fun x y W zx zy h => h.sub zx zy W (Below.refl _ _)) hi z1 z2 z3 z4

set_option maxRecDepth 100000 in
set_option maxHeartbeats 2000000 in
theorem Add_q {a1 a2 b1 b2 : ByteArray} {w : World} (hi : IOps w) (z1 : Sz a1) (z2 : Sz a2) (z3 : Sz b1) (z4 : Sz b2) :
    Calls Tryz.prog 41 #[.agg #[.string a1, .string a2], .agg #[.string b1, .string b2]] w fun e W' => e = .returned (.tuple #[.agg #[.string (qN (op2 addR a1 a2 b1 b2)), .string (qD (op2 addR a1 a2 b1 b2))], .int .i64 (qE (op2 addR a1 a2 b1 b2))]) ∧ Below w.heap.size w W' := by
  have H0 := Lib.hid (OpAt.start w a1 a2 b1 b2 47)
  have ks := Lib.hid (fun W (h : OpAt a1 a2 b1 b2 w W) => sumA (hi.below h.bw) z1 z2 z3 z4)
  clear hi z1 z2 z3 z4
  generalize op2 addR a1 a2 b1 b2 = o at ks ⊢
  go_enter Tryz.func41, Tryz.ntmps41
  go_wp2_with (first
    | (go_at_call 85; with_reducible refine (ks.out _ H0.out).mono ?_; rintro e w1 ⟨rfl, hb⟩; have h1 := H0.out.below hb; obtain ⟨_, _, _, _, _, q1, q2, q3, q4, _⟩ := id h1; have H1 := Lib.hid h1.rs; clear h1)
    | fail)
  obtain ⟨W5, hW5, p0, p1, hbl⟩ := H1.out.fin (qN o) (qD o)
  rw [hW5]
  clear hW5 q1 q2 q3 q4
  refine bodyPost_ret (v := .tuple #[.agg #[.string (qN o), .string (qD o)], .int .i64 (qE o)]) ?_ rfl ⟨rfl, hbl⟩
  simp [results, Tryz.results41, go_sem, p0, p1, Result.andThen]

set_option maxRecDepth 100000 in
set_option maxHeartbeats 2000000 in
theorem Sub_q {a1 a2 b1 b2 : ByteArray} {w : World} (hi : IOps w) (z1 : Sz a1) (z2 : Sz a2) (z3 : Sz b1) (z4 : Sz b2) :
    Calls Tryz.prog 92 #[.agg #[.string a1, .string a2], .agg #[.string b1, .string b2]] w fun e W' => e = .returned (.tuple #[.agg #[.string (qN (op2 subR a1 a2 b1 b2)), .string (qD (op2 subR a1 a2 b1 b2))], .int .i64 (qE (op2 subR a1 a2 b1 b2))]) ∧ Below w.heap.size w W' := by
  have H0 := Lib.hid (OpAt.start w a1 a2 b1 b2 47)
  have ks := Lib.hid (fun W (h : OpAt a1 a2 b1 b2 w W) => sumS (hi.below h.bw) z1 z2 z3 z4)
  clear hi z1 z2 z3 z4
  generalize op2 subR a1 a2 b1 b2 = o at ks ⊢
  go_enter Tryz.func92, Tryz.ntmps92
  go_wp2_with (first
    | (go_at_call 85; with_reducible refine (ks.out _ H0.out).mono ?_; rintro e w1 ⟨rfl, hb⟩; have h1 := H0.out.below hb; obtain ⟨_, _, _, _, _, q1, q2, q3, q4, _⟩ := id h1; have H1 := Lib.hid h1.rs; clear h1)
    | fail)
  obtain ⟨W5, hW5, p0, p1, hbl⟩ := H1.out.fin (qN o) (qD o)
  rw [hW5]
  clear hW5 q1 q2 q3 q4
  refine bodyPost_ret (v := .tuple #[.agg #[.string (qN o), .string (qD o)], .int .i64 (qE o)]) ?_ rfl ⟨rfl, hbl⟩
  simp [results, Tryz.results92, go_sem, p0, p1, Result.andThen]
end Go.Proofs.YtgngepbemgbbeaaGreatDoor

namespace Go.Proofs.YtgngepbemgbbeaaGreatDoor
open Go.RowKit Go.Shelf
attribute [local go_sem] Oper.semAt_some

theorem txtN_ten {n : Nat} (h : 0 < n) : txtN (n * 10) = txtN n ++ [48] := by
  rw [txtN_pos (by omega), txtN_pos h, show n * 10 = 0 + 10 * n by omega, dig_cons (by omega) (by omega) (by omega), List.reverse_cons, List.map_append]
  rfl
theorem txtN_pow (k : Nat) : txtN (10 ^ k) = 49 :: List.replicate k 48 := by
  induction k with
  | zero => decide
  | succ k ih =>
    rw [Nat.pow_succ, txtN_ten (Nat.pow_pos (by omega)), ih, List.replicate_succ', List.cons_append]
theorem pow_cast (k : Nat) : ((10 : Int) ^ k) = ((10 ^ k : Nat) : Int) := by rw [Int.natCast_pow]; rfl
theorem txt_nat (n : Nat) : txt (n : Int) = txtN n := by
  unfold txt
  rw [if_neg (by omega), Int.natAbs_natCast]
theorem str_pow (k : Nat) : (⟨#[49]⟩ : ByteArray) ++ ⟨(Lib.repeatL (⟨#[48]⟩ : ByteArray).data.toList k).toArray⟩ = str ((10 : Int) ^ k) := by
  have e : ((⟨#[49]⟩ : ByteArray) ++ ⟨(Lib.repeatL (⟨#[48]⟩ : ByteArray).data.toList k).toArray⟩).data.toList = (str ((10 : Int) ^ k)).data.toList := by
    rw [str_list, pow_cast, txt_nat, txtN_pow, ba_append]
    show [49] ++ Lib.repeatL [48] k = _
    rw [repeat_one]
    rfl
  exact congrArg ByteArray.mk (Array.toList_inj.1 e) 
theorem small_pow {k : Nat} (h : k < 200) : small ((10 : Int) ^ k) = true := by
  unfold small nDig
  rw [pow_cast, Int.natAbs_natCast, txtN_pow]
  simp
  omega
theorem up_small {n d : Int} (hd : 0 < d) (hn : small n = true) (hr : n % d ≠ 0) : small (n / d + 1) = true := by
  have h1 := Int.emod_nonneg n (show d ≠ 0 by omega)
  have h2 := Int.emod_lt_of_pos n hd
  have h3 := Int.emod_add_mul_ediv n d
  have hd2 : 2 ≤ d := by omega
  by_cases hq : 0 ≤ n / d
  · refine small_le hn ?_
    have h4 : 2 * (n / d) ≤ d * (n / d) := Int.mul_le_mul_of_nonneg_right hd2 hq
    omega
  · refine small_le (small_div d hn) ?_
    omega

/-- A fraction in a box, a result in the next block. -/
structure RpAt (a1 a2 : ByteArray) (w W : World) : Prop where
  bw : Below w.heap.size w W
  x0 : W.cell? ⟨w.heap.size, 0, none⟩ = some (.string a1)
  x1 : W.cell? ⟨w.heap.size, 1, none⟩ = some (.string a2)
  r0 : W.cell? ⟨w.heap.size + 1, 0, none⟩ = some (.string ⟨#[]⟩)
  r1 : W.cell? ⟨w.heap.size + 1, 1, none⟩ = some (.string ⟨#[]⟩)
  f0 : W.frozen? ⟨w.heap.size + 1, 0, none⟩ = false
  f1 : W.frozen? ⟨w.heap.size + 1, 1, none⟩ = false
  sz : w.heap.size + 1 + 1 ≤ W.heap.size
theorem RpAt.below {a1 a2 : ByteArray} {w W W' : World} (h : RpAt a1 a2 w W) (hb : Below W.heap.size W W') : RpAt a1 a2 w W' := by
  obtain ⟨c, f⟩ := bcell hb
  have hs := h.sz
  have hs' := hb.size
  exact ⟨h.bw.trans (hb.mono (by omega)), (c _ _ (by omega)).trans h.x0, (c _ _ (by omega)).trans h.x1, (c _ _ (by omega)).trans h.r0, (c _ _ (by omega)).trans h.r1, (f _ _ (by omega)).trans h.f0, (f _ _ (by omega)).trans h.f1, by omega⟩
theorem RpAt.rs {a1 a2 : ByteArray} {w W : World} (h : RpAt a1 a2 w W) : RsAt (w.heap.size + 1) w W := ⟨h.bw, h.r0, h.r1, h.f0, h.f1, by omega, by have := h.sz; omega⟩
theorem RpAt.start (w : World) (a1 a2 : ByteArray) (t : TypeId) : RpAt a1 a2 w ((w.alloc (.cells #[.string a1, .string a2] t)).alloc (.cells #[.string ⟨#[]⟩, .string ⟨#[]⟩] t)) := by
  refine ⟨((Below.refl _ _).alloc (Nat.le_refl _) _).alloc (by simp) _, ?_, ?_, ?_, ?_, ?_, ?_, by simp⟩ <;> simp [go_sem]
/-- The same, with a calculation in the block behind them. -/
structure RqAt (a1 a2 : ByteArray) (b : Bool) (w W0 W : World) : Prop where
  op : RpAt a1 a2 w W0
  wk : WkAt W0.heap.size (w.heap.size + 1 + 1) b W0 W
  size : W0.heap.size = w.heap.size + 1 + 1
theorem RqAt.at {a1 a2 : ByteArray} {b : Bool} {w W0 W : World} (h : RqAt a1 a2 b w W0 W) : RpAt a1 a2 w W := h.op.below h.wk.bw
theorem RqAt.to {a1 a2 : ByteArray} {b b' : Bool} {w W0 W W' V : World} (h : RqAt a1 a2 b w W0 W) (k : WkTo W0.heap.size (w.heap.size + 1 + 1) b' W0 V W') : RqAt a1 a2 b' w W0 W' := ⟨h.op, k.wk, h.size⟩
theorem RqAt.below {a1 a2 : ByteArray} {b : Bool} {w W0 W W' : World} (h : RqAt a1 a2 b w W0 W) (k : Below W.heap.size W W') : RqAt a1 a2 b w W0 W' := ⟨h.op, h.wk.below k, h.size⟩
theorem RqAt.set {a1 a2 : ByteArray} {b : Bool} {w W0 W : World} (h : RqAt a1 a2 b w W0 W) (b' : Bool) : RqAt a1 a2 b' w W0 (W.setCell ⟨w.heap.size + 1 + 1, 0, none⟩ (.bool b')) := ⟨h.op, h.wk.set b', h.size⟩
theorem RqAt.start (w : World) (a1 a2 : ByteArray) (t : TypeId) (b : Bool) : ∃ W0, RqAt a1 a2 b w W0 (((w.alloc (.cells #[.string a1, .string a2] t)).alloc (.cells #[.string ⟨#[]⟩, .string ⟨#[]⟩] t)).alloc (.cells #[.bool b] 134)) := by
  refine ⟨_, RpAt.start w a1 a2 t, ?_, by simp⟩
  have := WkAt.start (Below.refl _ ((w.alloc (.cells #[.string a1, .string a2] t)).alloc (.cells #[.string ⟨#[]⟩, .string ⟨#[]⟩] t))) (Nat.le_refl _) b
  have e : ((w.alloc (.cells #[.string a1, .string a2] t)).alloc (.cells #[.string ⟨#[]⟩, .string ⟨#[]⟩] t)).heap.size = w.heap.size + 1 + 1 := by simp
  rw [e] at this ⊢
  exact this
theorem FrAt.one {a1 a2 : ByteArray} (W : World) (t : TypeId) (z1 : Sz a1) (z2 : Sz a2) : FrAt W.heap.size [(a1, a2)] (W.alloc (.cells #[.string a1, .string a2] t)) := by
  refine ⟨fun k h => ?_, by simp, fun p hp => ?_⟩
  · rcases k with _ | k
    · exact ⟨by simp [go_sem], by simp [go_sem]⟩
    · simp at h
  · simp only [List.mem_cons, List.not_mem_nil, or_false] at hp
    subst hp
    exact ⟨z1, z2⟩
theorem rq_check {a1 a2 : ByteArray} {b : Bool} {w W0 W : World} (hi : IOps w) (z1 : Sz a1) (z2 : Sz a2) (h : RqAt a1 a2 b w W0 W) (t : TypeId) (S : Nat) (hS : W.heap.size = S) :
    Calls Tryz.prog 124 #[.pointer (some ⟨w.heap.size + 1 + 1, 0, none⟩), .slice (some ⟨S, 0, none⟩) 1 1] (W.alloc (.cells #[.string a1, .string a2] t)) fun e W' => (∃ v, e = .returned v) ∧ RqAt a1 a2 (chkB b [(a1, a2)]) w W0 W' := by
  subst hS
  refine (check_q (h.wk.alloc _) (hi.below h.op.bw) (FrAt.one W t z1 z2) h.wk.sz (by simp)).mono ?_
  rintro e W' ⟨he, h2⟩
  exact ⟨he, h.to h2⟩
theorem rq_reduced {a1 a2 x y : ByteArray} {p q : Int} {o : Option Rat} {w W0 W : World} (hi : IOps w) (zx : Sz x) (zy : Sz y) (h : RqAt a1 a2 false w W0 W) (h1 : numOf x = some p) (h2 : numOf y = some q) (ho : makeR p q = o) :
    Calls Tryz.prog 127 #[.pointer (some ⟨w.heap.size + 1 + 1, 0, none⟩), .string x, .string y] W fun e W' => e = .returned (.tuple #[.agg #[.string (qN o), .string (qD o)], .int .i64 (qE o)]) ∧ RsAt (w.heap.size + 1) w W' := by
  subst ho
  refine (reduced_q h.wk (hi.below h.op.bw) zx zy (fun _ => ⟨h1, h2⟩)).mono ?_
  rintro e W' ⟨he, h3⟩
  exact ⟨he, (h.op.below h3).rs⟩

theorem rep_k {k : Nat} (hk : k ≤ 30) (W : World) : Calls Tryz.prog 167 #[.string ⟨#[48]⟩, .int .i64 (k : Int)] W fun e w' => (∃ z : ByteArray, e = .returned (.string z) ∧ z.size ≤ 30 ∧ (⟨#[49]⟩ : ByteArray) ++ z = str ((10 : Int) ^ k)) ∧ Below W.heap.size W w' := by
  refine (Tryz.strings_Repeat ⟨#[48]⟩ k W (by omega) (by show 1 * _ ≤ _; omega)).mono ?_
  rintro e w' ⟨rfl, hb⟩
  refine ⟨⟨_, rfl, ?_, str_pow k⟩, hb⟩
  rw [ba_size]
  show (Lib.repeatL [48] k).length ≤ 30
  rw [repeat_one, List.length_replicate]
  exact hk
theorem rq_mul {a1 a2 x y : ByteArray} {z : Int} {w W0 W : World} (hi : IOps w) (zx : Sz x) (zy : Sz y) (h : RqAt a1 a2 false w W0 W) (e : mulO x y = some z) :
    Calls Tryz.prog 126 #[.pointer (some ⟨w.heap.size + 1 + 1, 0, none⟩), .string x, .string y] W fun e W' => e = .returned (.string (stS false (some z))) ∧ RqAt a1 a2 (stB false (some z)) w W0 W' := by
  have := mul_q zx zy h.wk (hi.below h.at.bw)
  rw [e] at this
  refine this.mono ?_
  rintro e W' ⟨he, h2⟩
  exact ⟨he, h.to h2⟩
theorem rq_add {a1 a2 x y : ByteArray} {z : Int} {w W0 W : World} (hi : IOps w) (zx : Sz x) (zy : Sz y) (h : RqAt a1 a2 false w W0 W) (e : addO x y = some z) (hs : small z = true) :
    Calls Tryz.prog 125 #[.pointer (some ⟨w.heap.size + 1 + 1, 0, none⟩), .func (.func 86) #[] #[], .string x, .string y] W fun e W' => e = .returned (.string (str z)) ∧ RqAt a1 a2 false w W0 W' := by
  refine (do_s 86 x y h.wk e hs (enters_of Tryz.func86 (by kernel_rfl) rfl) ((hi.below h.at.bw).add zx zy W (Below.refl _ _))).mono ?_
  rintro e W' ⟨he, h2⟩
  exact ⟨he, h.to h2⟩

end Go.Proofs.YtgngepbemgbbeaaGreatDoor

namespace Go.Proofs.YtgngepbemgbbeaaGreatDoor
open Go.RowKit Go.Shelf
attribute [local go_sem] Oper.semAt_some

/-- What FromInt answers, at all worlds from w on. -/
def FrOp (w : World) : Prop := ∀ (n : Int), -9223372036854775808 ≤ n → n ≤ 9223372036854775807 → ∀ W, Below w.heap.size w W → Calls Tryz.prog 111 #[.int .i64 n] W fun e W' => e = .returned (.string (str n)) ∧ Below W.heap.size W W'
theorem small_int {n : Int} (h1 : -9223372036854775808 ≤ n) (h2 : n ≤ 9223372036854775807) : small n = true := by
  unfold small
  rw [decide_eq_true_iff, nDig_le (by omega)]
  have : (10 : Nat) ^ 19 ≤ 10 ^ 200 := Nat.pow_le_pow_right (by omega) (by omega)
  have e : (10 : Nat) ^ 19 = 10000000000000000000 := by decide
  omega

set_option maxRecDepth 100000 in
set_option maxHeartbeats 2000000 in
theorem Of_q {n d : Int} {w : World} (hi : IOps w) (hf : FrOp w) (n1 : -9223372036854775808 ≤ n) (n2 : n ≤ 9223372036854775807) (d1 : -9223372036854775808 ≤ d) (d2 : d ≤ 9223372036854775807) :
    Calls Tryz.prog 77 #[.int .i64 n, .int .i64 d] w fun e W' => e = .returned (.tuple #[.agg #[.string (qN (makeR n d)), .string (qD (makeR n d))], .int .i64 (qE (makeR n d))]) ∧ Below w.heap.size w W' := by
  have H0 := Lib.hid (RsAt.start (Below.refl _ w) 47)
  have sn := small_int n1 n2
  have sd := small_int d1 d2
  have zn : Sz (str n) := by rw [← opS_small sn]; exact opS_sz _
  have zd : Sz (str d) := by rw [← opS_small sd]; exact opS_sz _
  have em : makeS (str n) (str d) = makeR n d := makeS_some (by rw [numOf_str, if_pos sn]) (by rw [numOf_str, if_pos sd])
  have k1 := Lib.hid (fun W hk => hf n n1 n2 W hk)
  have k2 := Lib.hid (fun W hk => hf d d1 d2 W hk)
  have km := Lib.hid (fun W (hk : Below w.heap.size w W) => by have := Make_q (hi.below hk) zn zd; rw [em] at this; exact this)
  generalize makeR n d = o at km ⊢
  generalize str n = sn' at k1 km
  generalize str d = sd' at k2 km
  clear hi hf sn sd zn zd em n1 n2 d1 d2
  go_enter Tryz.func77, Tryz.ntmps77
  go_wp2_with (first
    | (go_at_call 111; with_reducible refine (k1.out _ H0.out.bw).mono ?_; rintro e w1 ⟨rfl, hb⟩; have H1 := Lib.hid (H0.out.below hb); clear hb)
    | (go_at_call 111; with_reducible refine (k2.out _ H1.out.bw).mono ?_; rintro e w2 ⟨rfl, hb⟩; have H2 := Lib.hid (H1.out.below hb); clear hb)
    | (go_at_call 110; with_reducible refine (km.out _ H2.out.bw).mono ?_; rintro e w3 ⟨rfl, hb⟩; have h3 := H2.out.below hb; obtain ⟨_, q1, q2, q3, q4, _, _⟩ := id h3; have H3 := Lib.hid h3; clear hb h3)
    | fail)
  obtain ⟨W5, hW5, p0, p1, hbl⟩ := H3.out.fin (qN o) (qD o)
  rw [hW5]
  clear hW5 q1 q2 q3 q4
  refine bodyPost_ret (v := .tuple #[.agg #[.string (qN o), .string (qD o)], .int .i64 (qE o)]) ?_ rfl ⟨rfl, hbl⟩
  simp [results, Tryz.results77, go_sem, p0, p1, Result.andThen]

end Go.Proofs.YtgngepbemgbbeaaGreatDoor

