/-
  integer.ToInt, at every text of at most 2^47 bytes: strconv.Atoi by the shelf's contract.
-/
import Derived.Test.YtiefodlhnpondaaGreatDoorOut3
import Derived.Test.YtiefodlhnpondaaGreatDoorAtoiP
import Derived.Test.YtiefodlhnpondaaGreatDoorAt
import Derived.Test.YtiefodlhnpondaaGreatDoorShelfB
namespace Go.Proofs.YtiefodlhnpondaaGreatDoor
open Go.RowKit Go.Shelf
attribute [local go_sem] Oper.semAt_some

/-- What is read of strconv's error variables: each holds an error. -/
structure GlobE (w : World) : Prop where
  syn : ∃ te pe, w.var? Tryz.prog "strconv.ErrSyntax" = some #[.iface te pe]
  ran : ∃ te pe, w.var? Tryz.prog "strconv.ErrRange" = some #[.iface te pe]
theorem var_below {w w' : World} {n : String} {x : Value} (h : w.var? Tryz.prog n = some #[x]) (hb : Below w.heap.size w w') : w'.var? Tryz.prog n = some #[x] := by
  obtain ⟨g, hg⟩ : ∃ g, Tryz.prog.globalNamed n = some g := by
    cases hh : Tryz.prog.globalNamed n with
    | some g => exact ⟨g, rfl⟩
    | none => unfold World.var? at h; rw [hh] at h; cases h
  unfold World.var? at h ⊢
  rw [hg] at h ⊢
  simp only [Option.bind_some] at h ⊢
  cases ho : w.heap[g]? with
  | none => rw [ho] at h; cases h
  | some o => rw [hb.block g (Array.getElem?_eq_some_iff.1 ho).1]; exact h
theorem GlobE.below {w w' : World} (h : GlobE w) (hb : Below w.heap.size w w') : GlobE w' := by
  obtain ⟨⟨a, b, h1⟩, c, d, h2⟩ := h
  exact ⟨⟨a, b, var_below h1 hb⟩, c, d, var_below h2 hb⟩

/-- What strconv.Atoi answers: a number and no error, or an error. -/
theorem Atoi_ok (s : ByteArray) (hs : s.size ≤ 281474976710656) (v : Int) (h : Lib.atoiAll s.data.toList = .ok v) (w : World) :
    Calls Tryz.prog 57 #[.string s] w fun e w' => e = .returned (.tuple #[.int .i64 v, .nilIface]) ∧ Below w.heap.size w w' := by
  have hc : Calls Tryz.prog 57 #[.string s] w fun e w' => e = .returned (.tuple #[.int .i64 v, .nilIface]) ∧ (w' = w ∨ ∃ t, w' = Lib.bytesWorld w 5 t) := Any.strconv_Atoi_ok Tryz.laysC172 s (by omega) v h w
  refine hc.mono ?_
  rintro e w' ⟨rfl, rfl | ⟨t, rfl⟩⟩
  · exact ⟨rfl, Below.refl _ _⟩
  · exact ⟨rfl, Lib.bytesWorld_below _ _ _⟩
theorem Atoi_err (s : ByteArray) (hs : s.size ≤ 281474976710656) (h : ∀ v, ¬ Lib.atoiAll s.data.toList = .ok v) (w : World) (hG : GlobE w) :
    Calls Tryz.prog 57 #[.string s] w fun e w' => (∃ n t b, e = .returned (.tuple #[.int .i64 n, .iface t (.pointer (some ⟨b, 0, none⟩))])) ∧ Below w.heap.size w w' := by
  obtain ⟨⟨te, pe, h1⟩, tf, pf, h2⟩ := hG
  rcases ha : Lib.atoiAll s.data.toList with v | _ | _
  · exact absurd ha (h v)
  · refine (Any.strconv_Atoi_syntax_var Tryz.laysC172 s hs ha te pe w h1).mono ?_
    rintro e w' ⟨N, rfl, _, _, hb⟩
    exact ⟨⟨_, _, _, rfl⟩, hb⟩
  · refine (Any.strconv_Atoi_range_var Tryz.laysC172 s hs ha tf pf w h2).mono ?_
    rintro e w' ⟨N, rfl, _, _, hb⟩
    exact ⟨⟨_, _, _, rfl⟩, hb⟩

set_option maxRecDepth 100000 in
set_option maxHeartbeats 4000000 in
theorem ToInt_ok (s : ByteArray) (x : Int) (w : World) (es : s = str x) (hx : small x = true) (h : inInt x = true) :
    Calls Tryz.prog 31 #[.string s] w fun e w' => e = .returned (.tuple #[.int .i64 x, .int .i64 0]) ∧ Below w.heap.size w w' := by
  have hsz := small_size hx
  rw [← es] at hsz
  have h200 : s.size ≤ 201 := by
    rw [es, str_size]
    have := txt_length x
    have : nDig x.natAbs ≤ 200 := by simpa [small] using hx
    omega
  have hl : s.data.toList = txt x := by rw [es, str_list]
  have hat := fun W => Atoi_ok s (by omega) x (by rw [hl, atoiAll_txt, if_pos h]) W
  have hvd : validL s.data.toList = true := by rw [hl, validL_txt]; exact hx
  have hv := fun W => isValid_any s W hsz
  rw [hvd] at hv
  have HAT := Lib.hid hat
  have HV := Lib.hid hv
  clear hat hv hl hvd es hx h
  go_enter Tryz.func31, Tryz.ntmps31
  go_wp2_with (first
    | (go_at_call 57; with_reducible refine (HAT.out _).mono ?_; rintro e w1 ⟨rfl, hb1⟩)
    | (go_at_call 47; with_reducible refine (HV.out _).mono ?_; rintro e w2 ⟨rfl, hb2⟩))
  go_ret2
  exact ⟨rfl, hb1.trans (hb2.mono hb1.size)⟩

set_option maxRecDepth 100000 in
set_option maxHeartbeats 4000000 in
theorem ToInt_invalid (s : ByteArray) (w : World) (hG : GlobE w) (hs : s.size ≤ 281474976710656) (hn : validL s.data.toList = false) :
    Calls Tryz.prog 31 #[.string s] w fun e w' => e = .returned (.tuple #[.int .i64 0, .int .i64 30]) ∧ Below w.heap.size w w' := by
  have hv := fun W => isValid_any s W (by omega)
  rw [hn] at hv
  have HV := Lib.hid hv
  have hat : ∀ W, GlobE W → Calls Tryz.prog 57 #[.string s] W fun e w' => (∃ n v, e = .returned (.tuple #[.int .i64 n, v])) ∧ Below W.heap.size W w' := fun W hG => by
    by_cases h : ∃ v, Lib.atoiAll s.data.toList = .ok v
    · obtain ⟨v, h⟩ := h
      exact (Atoi_ok s hs v h W).mono fun e w' ⟨he, hb⟩ => ⟨⟨_, _, he⟩, hb⟩
    · exact (Atoi_err s hs (fun v hv => h ⟨v, hv⟩) W hG).mono fun e w' ⟨⟨n, t, b, he⟩, hb⟩ => ⟨⟨_, _, he⟩, hb⟩
  have HAT := Lib.hid (hat w hG)
  clear hat hv hn
  go_enter Tryz.func31, Tryz.ntmps31
  go_wp2_with (first
    | (go_at_call 57; with_reducible refine (HAT.out).mono ?_; rintro e w1 ⟨⟨n, v, rfl⟩, hb1⟩)
    | (go_at_call 47; with_reducible refine (HV.out _).mono ?_; rintro e w2 ⟨rfl, hb2⟩))
  go_ret2
  exact ⟨rfl, hb1.trans (hb2.mono hb1.size)⟩

set_option maxRecDepth 100000 in
set_option maxHeartbeats 4000000 in
theorem ToInt_range (s : ByteArray) (x : Int) (w : World) (hG : GlobE w) (es : s = str x) (hx : small x = true) (h : inInt x = false) :
    Calls Tryz.prog 31 #[.string s] w fun e w' => e = .returned (.tuple #[.int .i64 0, .int .i64 30]) ∧ Below w.heap.size w w' := by
  have hsz := small_size hx
  rw [← es] at hsz
  have h200 : s.size ≤ 201 := by
    rw [es, str_size]
    have := txt_length x
    have : nDig x.natAbs ≤ 200 := by simpa [small] using hx
    omega
  have hl : s.data.toList = txt x := by rw [es, str_list]
  have hat := Atoi_err s (by omega) (fun v hv => by rw [hl, atoiAll_txt, if_neg (by rw [h]; simp)] at hv; cases hv) w hG
  have hvd : validL s.data.toList = true := by rw [hl, validL_txt]; exact hx
  have hv := fun W => isValid_any s W hsz
  rw [hvd] at hv
  have HAT := Lib.hid hat
  have HV := Lib.hid hv
  clear hat hv hl hvd es hx h
  go_enter Tryz.func31, Tryz.ntmps31
  go_wp2_with (first
    | (go_at_call 57; with_reducible refine (HAT.out).mono ?_; rintro e w1 ⟨⟨n, t, b, rfl⟩, hb1⟩)
    | (go_at_call 47; with_reducible refine (HV.out _).mono ?_; rintro e w2 ⟨rfl, hb2⟩))
  go_ret2
  exact ⟨rfl, hb1.trans (hb2.mono hb1.size)⟩
end Go.Proofs.YtiefodlhnpondaaGreatDoor
