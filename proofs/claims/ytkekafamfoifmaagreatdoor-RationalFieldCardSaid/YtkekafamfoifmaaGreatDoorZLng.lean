/-
  The reference's Long: a fraction of at most 100 digits that four integers determine.
-/
import Derived.Test.YtkekafamfoifmaaGreatDoorZFqP
import Derived.Test.YtkekafamfoifmaaGreatDoorZPrs
import Derived.Test.YtkekafamfoifmaaGreatDoorZLimQP
import Derived.Test.YtkekafamfoifmaaGreatDoorZPk
namespace Go.Proofs.YtkekafamfoifmaaGreatDoor
open Go.RowKit Go.Shelf
attribute [local go_sem] Oper.semAt_some

/-- Bytes that are digits. -/
def DgL (l : List UInt8) : Prop := ∀ c ∈ l, 48 ≤ c.toNat ∧ c.toNat ≤ 57
/-- A number of at most 100 digits. -/
def Dg (t : ByteArray) : Prop := ∃ z : Nat, z < 10 ^ 100 ∧ t = str (z : Int)
theorem Dg.of {t : ByteArray} (hd : DgL t.data.toList) (h1 : 1 ≤ t.size) (h2 : t.size ≤ 100) (h3 : t.size = 1 ∨ t.data.toList.head? ≠ some 48) : Dg t := by
  have hl : t.data.toList.length = t.size := size_list t
  have hne : t.data.toList ≠ [] := fun e => by rw [e] at hl; simp at hl; omega
  refine ⟨valB t.data.toList, Nat.lt_of_lt_of_le (valB_lt hd) (Nat.pow_le_pow_right (by decide) (by omega)), ?_⟩
  apply ByteArray.ext
  apply Array.toList_inj.1
  rw [str_list]
  by_cases hh : t.data.toList.head? = some 48
  · have h4 : t.size = 1 := by
      rcases h3 with h | h
      · exact h
      · exact absurd hh h
    generalize t.data.toList = l at hl hh
    match l, hl with
    | [c], _ =>
      simp at hh
      subst hh
      decide
    | [], hl => simp at hl; omega
    | a :: b :: r, hl => simp at hl; omega
  · unfold txt
    rw [if_neg (by omega), Int.natAbs_natCast]
    exact (txtN_valB hne hd hh).1.symm
theorem Dg.num {z : Nat} (h : z < 10 ^ 100) : small (z : Int) = true := small_pw (k := 100) (by decide) (by rw [Int.natAbs_natCast]; exact h)
theorem lng_make {p q : Int} (hp : p.natAbs < 10 ^ 100) (hq : 0 < q) (hq2 : q.natAbs < 10 ^ 100) : makeR p q = some (Rat.divInt p q) ∧ L100 (Rat.divInt p q) := by
  obtain ⟨h1, h2⟩ := rat_le (p := p) hq
  exact ⟨if_neg (by omega), by omega, by omega⟩
theorem one_string (W : World) (b : Int) (h0 : 0 ≤ b) (h1 : b < 256) :
    (convert 35 9 (.slice (some ⟨W.heap.size, 0, none⟩) 1 1)).run Tryz.prog (W.alloc (.cells #[.int .u8 b] 5)) = .ok (.string ⟨#[UInt8.ofNat b.toNat]⟩) (W.alloc (.cells #[.int .u8 b] 5)) := by
  have hc : Lib.Bytes (W.alloc (.cells #[.int .u8 b] 5)) W.heap.size 0 ⟨#[UInt8.ofNat b.toNat]⟩ := by
    intro i hi
    have h := (ArAt.start W #[.int .u8 b] 5).row 0 _ rfl
    obtain rfl : i = 0 := by
      have : i < 1 := hi
      omega
    have e : ((UInt8.ofNat b.toNat).toNat : Int) = b := by
      rw [UInt8.toNat_ofNat']
      omega
    refine h.trans ?_
    show some (Value.int .u8 b) = some (Value.int .u8 ((UInt8.ofNat b.toNat).toNat : Int))
    rw [e]
  exact Lib.run_convert_whole (P := Tryz.prog) _ 35 5 9 Tryz.underlying35 Tryz.underlying5 Tryz.underlying9 W.heap.size 0 ⟨#[UInt8.ofNat b.toNat]⟩ hc 1
def lenS (v : Value) : Nat := match v with | .string t => t.size | _ => 0
structure LgAt (x0 x1 x2 x3 : Int) (t0 t1 : ByteArray) (w W : World) : Prop where
  bw : Below w.heap.size w W
  x : ArAt w.heap.size [.int .i64 x0, .int .i64 x1, .int .i64 x2, .int .i64 x3] W
  r : ArAt (w.heap.size + 1) [.string ⟨#[]⟩, .string ⟨#[]⟩] W
  o : ArAt (w.heap.size + 1 + 1) [.string t0, .string t1] W
theorem LgAt.below {x0 x1 x2 x3 : Int} {t0 t1 : ByteArray} {w W W' : World} (h : LgAt x0 x1 x2 x3 t0 t1 w W) (hb : Below W.heap.size W W') : LgAt x0 x1 x2 x3 t0 t1 w W' :=
  ⟨h.bw.trans (hb.mono h.bw.size), h.x.below hb, h.r.below hb, h.o.below hb⟩
theorem LgAt.al {x0 x1 x2 x3 : Int} {t0 t1 : ByteArray} {w W : World} (h : LgAt x0 x1 x2 x3 t0 t1 w W) (o : Obj) : LgAt x0 x1 x2 x3 t0 t1 w (W.alloc o) := h.below ((Below.refl _ _).alloc (Nat.le_refl _) _)
theorem LgAt.set0 {x0 x1 x2 x3 : Int} {t0 t1 : ByteArray} {w W : World} (h : LgAt x0 x1 x2 x3 t0 t1 w W) (t : ByteArray) : LgAt x0 x1 x2 x3 t t1 w (W.setCell ⟨w.heap.size + 1 + 1, 0, none⟩ (.string t)) :=
  ⟨h.bw.setCell (by simp; omega) _, h.x.other (by omega) _ _, h.r.other (by omega) _ _, h.o.set (i := 0) rfl _⟩
theorem LgAt.set1 {x0 x1 x2 x3 : Int} {t0 t1 : ByteArray} {w W : World} (h : LgAt x0 x1 x2 x3 t0 t1 w W) (t : ByteArray) : LgAt x0 x1 x2 x3 t0 t w (W.setCell ⟨w.heap.size + 1 + 1, 1, none⟩ (.string t)) :=
  ⟨h.bw.setCell (by simp; omega) _, h.x.other (by omega) _ _, h.r.other (by omega) _ _, h.o.set (i := 1) rfl _⟩
theorem LgAt.start (w : World) (x0 x1 x2 x3 : Int) (t u v : TypeId) : LgAt x0 x1 x2 x3 ⟨#[]⟩ ⟨#[]⟩ w (((w.alloc (.cells #[.int .i64 x0, .int .i64 x1, .int .i64 x2, .int .i64 x3] t)).alloc (.cells #[.string ⟨#[]⟩, .string ⟨#[]⟩] u)).alloc (.cells #[.string ⟨#[]⟩, .string ⟨#[]⟩] v)) := by
  have s1 := ArAt.start w #[.int .i64 x0, .int .i64 x1, .int .i64 x2, .int .i64 x3] t
  have s2 := ArAt.start (w.alloc (.cells #[.int .i64 x0, .int .i64 x1, .int .i64 x2, .int .i64 x3] t)) #[.string ⟨#[]⟩, .string ⟨#[]⟩] u
  have s3 := ArAt.start ((w.alloc (.cells #[.int .i64 x0, .int .i64 x1, .int .i64 x2, .int .i64 x3] t)).alloc (.cells #[.string ⟨#[]⟩, .string ⟨#[]⟩] u)) #[.string ⟨#[]⟩, .string ⟨#[]⟩] v
  simp only [World.size_alloc] at s1 s2 s3
  exact ⟨(((Below.refl _ _).alloc (Nat.le_refl _) _).alloc (by simp only [World.size_alloc]; omega) _).alloc (by simp only [World.size_alloc]; omega) _, (s1.al _).al _, s2.al _, s3⟩

theorem LgAt.rs {x0 x1 x2 x3 : Int} {t0 t1 : ByteArray} {w W : World} (h : LgAt x0 x1 x2 x3 t0 t1 w W) : RsAt (w.heap.size + 1) w W :=
  ⟨h.bw, h.r.row 0 _ rfl, h.r.row 1 _ rfl, h.r.fz 0 (by simp), h.r.fz 1 (by simp), by omega, h.r.sz⟩
theorem RsAt.fin2 {R : Nat} {w W : World} (h : RsAt R w W) (s t : ByteArray) (o : Obj) : ∃ W5, (((W.setCell ⟨R, 0, none⟩ (.string s)).setCell ⟨R, 1, none⟩ (.string t)).alloc o) = W5 ∧ W5.cell? ⟨R, 0, none⟩ = some (.string s) ∧ W5.cell? ⟨R, 1, none⟩ = some (.string t) ∧ Below w.heap.size w W5 := by
  obtain ⟨W5, e, c0, c1, hb⟩ := h.fin s t
  have hs : R < W5.heap.size := by rw [← e]; simpa using h.sz
  have ha := (Below.refl W5.heap.size W5).alloc (Nat.le_refl _) o
  obtain ⟨c, _⟩ := bcell ha
  exact ⟨W5.alloc o, by rw [e], (c _ _ hs).trans c0, (c _ _ hs).trans c1, hb.trans (ha.mono hb.size)⟩
theorem RsAt.al {R : Nat} {w W : World} (h : RsAt R w W) (o : Obj) : RsAt R w (W.alloc o) := h.below ((Below.refl _ _).alloc (Nat.le_refl _) _)
theorem str_minus {z : Nat} (h : z ≠ 0) : (⟨#[45]⟩ : ByteArray) ++ str (z : Int) = str (-(z : Int)) := by
  apply ByteArray.ext
  apply Array.toList_inj.1
  rw [ba_append, str_list, str_list]
  unfold txt
  rw [if_neg (by omega), if_pos (by omega)]
  simp

set_option maxRecDepth 100000 in
set_option maxHeartbeats 8000000 in
theorem Long_f (x0 x1 x2 x3 : Int) (h00 : -9223372036854775808 ≤ x0) (h01 : x0 ≤ 9223372036854775807) (h10 : -9223372036854775808 ≤ x1) (h11 : x1 ≤ 9223372036854775807) (h20 : -9223372036854775808 ≤ x2) (h21 : x2 ≤ 9223372036854775807) (h30 : -9223372036854775808 ≤ x3) (h31 : x3 ≤ 9223372036854775807) (w : World) :
    Calls Tryz.prog 12 #[.agg #[.int .i64 x0, .int .i64 x1, .int .i64 x2, .int .i64 x3]] w fun e W' => (∃ r : Rat, L100 r ∧ e = .returned (.agg #[.string (str r.num), .string (str (r.den : Int))])) ∧ Below w.heap.size w W' := by
  have H0 := Lib.hid (LgAt.start w x0 x1 x2 x3 24 23 64)
  have pc : ∀ (x : Int) (k : Nat), -9223372036854775808 ≤ x → x ≤ 9223372036854775807 → 0 < k → k ≤ 4294967296 → ∀ (i : Int), (k : Int) = i → ∀ W, Calls Tryz.prog 46 #[.int .i64 x, .int .i64 i] W fun e w' => e = .returned (.int .i64 (pickN x k : Nat)) ∧ W = w' := fun x k a b c d i e W => by subst e; exact pick_f x k a b c d W
  have p1 := Lib.hid (pc x1 100 h10 h11 (by decide) (by decide) 100 rfl)
  have p3 := Lib.hid (pc x3 100 h30 h31 (by decide) (by decide) 100 rfl)
  have p0 := Lib.hid (pc x0 1000000007 h00 h01 (by decide) (by decide) 1000000007 rfl)
  have p2 := Lib.hid (pc x2 1000000007 h20 h21 (by decide) (by decide) 1000000007 rfl)
  have ps := Lib.hid (pc x0 2 h00 h01 (by decide) (by decide) 2 rfl)
  clear pc h00 h01 h10 h11 h20 h21 h30 h31
  go_enter Tryz.func12, Tryz.ntmps12
  go_wp2
  go_loopw [4] (fun k wr => ∃ (j : Nat) (t0 t1 : ByteArray), j ≤ 2 ∧ k = .int .i64 (j : Int) ∧ LgAt x0 x1 x2 x3 t0 t1 w wr ∧ (1 ≤ j → Dg t0) ∧ (2 ≤ j → Dg t1)) (fun k _ => 2 - (intOf k).toNat)
  case atStart => exact ⟨0, _, _, by omega, rfl, H0.out, fun h => by omega, fun h => by omega⟩
  case round =>
    obtain ⟨j, t0, t1, hj, rfl, hL, g0, g1⟩ := hrel
    obtain rfl | rfl | rfl : j = 0 ∨ j = 1 ∨ j = 2 := by omega
    · have c0 := hL.x.row 1 _ rfl
      have c1 := hL.x.row 0 _ rfl
      have HL := Lib.hid hL
      have HG := Lib.hid g0
      clear hL g0 g1
      obtain ⟨n, en⟩ : ∃ n, n = pickN x1 100 := ⟨_, rfl⟩
      obtain ⟨C0, eC⟩ : ∃ n, n = pickN x0 1000000007 := ⟨_, rfl⟩
      have hn : n < 100 := by rw [en]; exact pickN_lt _ (by decide)
      have hC : C0 < 1000000007 := by rw [eC]; exact pickN_lt _ (by decide)
      have P1 := Lib.hid (fun W => by have := p1.out W; rw [← en] at this; exact this)
      have P2 := Lib.hid (fun W => by have := p0.out W; rw [← eC] at this; exact this)
      clear en eC
      go_wp2_with (first
        | (go_at_call 46; with_reducible refine (P1.out _).mono ?_; rintro e w' ⟨rfl, rfl⟩)
        | (go_at_call 46; with_reducible refine (P2.out _).mono ?_; rintro e w' ⟨rfl, rfl⟩)
        | fail)
      go_loopw [6, 7] (fun s c wr => ∃ (t : ByteArray) (C : Nat), s = .string t ∧ c = .int .i64 (C : Int) ∧ C < 2147483647 ∧ DgL t.data.toList ∧ t.size ≤ n + 1 ∧ LgAt x0 x1 x2 x3 t0 t1 w wr) (fun s _ _ => n + 1 - lenS s)
      case atStart => exact ⟨_, C0, rfl, rfl, by omega, (fun c hc => nomatch hc), (show 0 ≤ n + 1 by omega), HL.out⟩
      case round =>
        obtain ⟨t, C, rfl, rfl, hCl, hd, hsz, hL⟩ := hrel
        have HD := Lib.hid hd
        have HL2 := Lib.hid hL
        clear hd hL
        by_cases hlt : t.size < n + 1
        · have hcv := one_string wr (48 + ((C : Int) * 48271 + 11) % 2147483647 / 65536 % 10) (by omega) (by omega)
          obtain ⟨u, hu⟩ : ∃ u : UInt8, u = UInt8.ofNat (48 + ((C : Int) * 48271 + 11) % 2147483647 / 65536 % 10).toNat := ⟨_, rfl⟩
          rw [← hu] at hcv
          have hu2 : 48 ≤ u.toNat ∧ u.toNat ≤ 57 := by
            rw [hu, UInt8.toNat_ofNat']
            have e1 : 0 ≤ ((C : Int) * 48271 + 11) % 2147483647 / 65536 % 10 := Int.emod_nonneg _ (by decide)
            have e2 : ((C : Int) * 48271 + 11) % 2147483647 / 65536 % 10 < 10 := Int.emod_lt_of_pos _ (by decide)
            generalize ((C : Int) * 48271 + 11) % 2147483647 / 65536 % 10 = e at e1 e2
            omega
          have HU := Lib.hid hu2
          clear hu hu2
          go_wp2
          refine ⟨⟨_, (C * 48271 + 11) % 2147483647, rfl, by go_num, Nat.mod_lt _ (by decide), ?_, ?_, HL2.out.al _⟩, ?_⟩
          · rw [ba_append]
            intro c hc
            rcases List.mem_append.1 hc with h | h
            · exact HD.out c h
            · simp at h
              subst h
              exact HU.out
          · rw [ba_size, ba_append, List.length_append, ← ba_size]
            show t.size + 1 ≤ n + 1
            omega
          · have e : ByteArray.size (t ++ (⟨#[u]⟩ : ByteArray)) = t.size + 1 := by
              rw [ba_size, ba_append, List.length_append, ← ba_size]
              rfl
            show n + 1 - ByteArray.size (t ++ (⟨#[u]⟩ : ByteArray)) < n + 1 - t.size
            rw [e]
            omega
        · go_wp2
          go_loopw [6] (fun s wr2 => ∃ t : ByteArray, s = .string t ∧ DgL t.data.toList ∧ 1 ≤ t.size ∧ t.size ≤ 100 ∧ LgAt x0 x1 x2 x3 t0 t1 w wr2) (fun s _ => lenS s)
          case atStart => exact ⟨t, rfl, HD.out, by omega, by omega, HL2.out⟩
          case round =>
            obtain ⟨t, rfl, hd, hz1, hz2, hL⟩ := hrel
            have HD := Lib.hid hd
            have oc := hL.o.row 0 _ rfl
            have of := hL.o.fz 0 (by simp)
            have HL3 := Lib.hid hL
            have HSZ := Lib.hid (size_list t)
            have HAT := Lib.hid (fun (k : Nat) (h : k < t.size) => at_data h)
            clear hd hL
            by_cases h1 : 1 < t.size
            · by_cases h0 : (t[0]'(by omega)).toNat = 48
              · go_wp2
                refine ⟨⟨_, rfl, ?_, ?_, ?_, HL3.out⟩, ?_⟩
                · rw [Lib.extract_to_end]
                  intro c hc
                  exact HD.out c (List.mem_of_mem_drop hc)
                · rw [ByteArray.size_extract]; omega
                · rw [ByteArray.size_extract]; omega
                · have e : ByteArray.size (t.extract 1 t.size) < t.size := by rw [ByteArray.size_extract]; omega
                  exact e
              · have hnh : t.data.toList.head? ≠ some 48 := fun e => h0 (by
                  have e2 := HAT.out 0 (by omega)
                  rw [← List.head?_eq_getElem?, e] at e2
                  rw [← Option.some.inj e2]
                  rfl)
                have HN := Lib.hid hnh
                clear hnh
                go_wp2
                exact ⟨⟨1, t, t1, by omega, by go_num, HL3.out.set0 t, fun _ => Dg.of HD.out hz1 hz2 (.inr HN.out), fun h => by omega⟩, by simp only [intOf]; omega⟩
            · go_wp2
              exact ⟨⟨1, t, t1, by omega, by go_num, HL3.out.set0 t, fun _ => Dg.of HD.out hz1 hz2 (.inl (by omega)), fun h => by omega⟩, by simp only [intOf]; omega⟩
    · have c0 := hL.x.row 3 _ rfl
      have c1 := hL.x.row 2 _ rfl
      have HL := Lib.hid hL
      have HG := Lib.hid g0
      clear hL g0 g1
      obtain ⟨n, en⟩ : ∃ n, n = pickN x3 100 := ⟨_, rfl⟩
      obtain ⟨C0, eC⟩ : ∃ n, n = pickN x2 1000000007 := ⟨_, rfl⟩
      have hn : n < 100 := by rw [en]; exact pickN_lt _ (by decide)
      have hC : C0 < 1000000007 := by rw [eC]; exact pickN_lt _ (by decide)
      have P1 := Lib.hid (fun W => by have := p3.out W; rw [← en] at this; exact this)
      have P2 := Lib.hid (fun W => by have := p2.out W; rw [← eC] at this; exact this)
      clear en eC
      go_wp2_with (first
        | (go_at_call 46; with_reducible refine (P1.out _).mono ?_; rintro e w' ⟨rfl, rfl⟩)
        | (go_at_call 46; with_reducible refine (P2.out _).mono ?_; rintro e w' ⟨rfl, rfl⟩)
        | fail)
      go_loopw [6, 7] (fun s c wr => ∃ (t : ByteArray) (C : Nat), s = .string t ∧ c = .int .i64 (C : Int) ∧ C < 2147483647 ∧ DgL t.data.toList ∧ t.size ≤ n + 1 ∧ LgAt x0 x1 x2 x3 t0 t1 w wr) (fun s _ _ => n + 1 - lenS s)
      case atStart => exact ⟨_, C0, rfl, rfl, by omega, (fun c hc => nomatch hc), (show 0 ≤ n + 1 by omega), HL.out⟩
      case round =>
        obtain ⟨t, C, rfl, rfl, hCl, hd, hsz, hL⟩ := hrel
        have HD := Lib.hid hd
        have HL2 := Lib.hid hL
        clear hd hL
        by_cases hlt : t.size < n + 1
        · have hcv := one_string wr (48 + ((C : Int) * 48271 + 11) % 2147483647 / 65536 % 10) (by omega) (by omega)
          obtain ⟨u, hu⟩ : ∃ u : UInt8, u = UInt8.ofNat (48 + ((C : Int) * 48271 + 11) % 2147483647 / 65536 % 10).toNat := ⟨_, rfl⟩
          rw [← hu] at hcv
          have hu2 : 48 ≤ u.toNat ∧ u.toNat ≤ 57 := by
            rw [hu, UInt8.toNat_ofNat']
            have e1 : 0 ≤ ((C : Int) * 48271 + 11) % 2147483647 / 65536 % 10 := Int.emod_nonneg _ (by decide)
            have e2 : ((C : Int) * 48271 + 11) % 2147483647 / 65536 % 10 < 10 := Int.emod_lt_of_pos _ (by decide)
            generalize ((C : Int) * 48271 + 11) % 2147483647 / 65536 % 10 = e at e1 e2
            omega
          have HU := Lib.hid hu2
          clear hu hu2
          go_wp2
          refine ⟨⟨_, (C * 48271 + 11) % 2147483647, rfl, by go_num, Nat.mod_lt _ (by decide), ?_, ?_, HL2.out.al _⟩, ?_⟩
          · rw [ba_append]
            intro c hc
            rcases List.mem_append.1 hc with h | h
            · exact HD.out c h
            · simp at h
              subst h
              exact HU.out
          · rw [ba_size, ba_append, List.length_append, ← ba_size]
            show t.size + 1 ≤ n + 1
            omega
          · have e : ByteArray.size (t ++ (⟨#[u]⟩ : ByteArray)) = t.size + 1 := by
              rw [ba_size, ba_append, List.length_append, ← ba_size]
              rfl
            show n + 1 - ByteArray.size (t ++ (⟨#[u]⟩ : ByteArray)) < n + 1 - t.size
            rw [e]
            omega
        · go_wp2
          go_loopw [6] (fun s wr2 => ∃ t : ByteArray, s = .string t ∧ DgL t.data.toList ∧ 1 ≤ t.size ∧ t.size ≤ 100 ∧ LgAt x0 x1 x2 x3 t0 t1 w wr2) (fun s _ => lenS s)
          case atStart => exact ⟨t, rfl, HD.out, by omega, by omega, HL2.out⟩
          case round =>
            obtain ⟨t, rfl, hd, hz1, hz2, hL⟩ := hrel
            have HD := Lib.hid hd
            have oc := hL.o.row 1 _ rfl
            have of := hL.o.fz 1 (by simp)
            have HL3 := Lib.hid hL
            have HSZ := Lib.hid (size_list t)
            have HAT := Lib.hid (fun (k : Nat) (h : k < t.size) => at_data h)
            clear hd hL
            by_cases h1 : 1 < t.size
            · by_cases h0 : (t[0]'(by omega)).toNat = 48
              · go_wp2
                refine ⟨⟨_, rfl, ?_, ?_, ?_, HL3.out⟩, ?_⟩
                · rw [Lib.extract_to_end]
                  intro c hc
                  exact HD.out c (List.mem_of_mem_drop hc)
                · rw [ByteArray.size_extract]; omega
                · rw [ByteArray.size_extract]; omega
                · have e : ByteArray.size (t.extract 1 t.size) < t.size := by rw [ByteArray.size_extract]; omega
                  exact e
              · have hnh : t.data.toList.head? ≠ some 48 := fun e => h0 (by
                  have e2 := HAT.out 0 (by omega)
                  rw [← List.head?_eq_getElem?, e] at e2
                  rw [← Option.some.inj e2]
                  rfl)
                have HN := Lib.hid hnh
                clear hnh
                go_wp2
                exact ⟨⟨2, t0, t, by omega, by go_num, HL3.out.set1 t, fun _ => HG.out (by omega), fun _ => Dg.of HD.out hz1 hz2 (.inr HN.out)⟩, by simp only [intOf]; omega⟩
            · go_wp2
              exact ⟨⟨2, t0, t, by omega, by go_num, HL3.out.set1 t, fun _ => HG.out (by omega), fun _ => Dg.of HD.out hz1 hz2 (.inl (by omega))⟩, by simp only [intOf]; omega⟩
    · obtain ⟨z0, l0, e0⟩ := g0 (by omega)
      obtain ⟨z1, l1, e1⟩ := g1 (by omega)
      have cx := hL.x.row 0 _ rfl
      have oc0 := hL.o.row 0 _ rfl
      have oc1 := hL.o.row 1 _ rfl
      have of0 := hL.o.fz 0 (by simp)
      have of1 := hL.o.fz 1 (by simp)
      have HL := Lib.hid hL
      obtain ⟨S, eS⟩ : ∃ n, n = pickN x0 2 := ⟨_, rfl⟩
      have hS : S < 2 := by rw [eS]; exact pickN_lt _ (by decide)
      have PS := Lib.hid (fun W => by have := ps.out W; rw [← eS] at this; exact this)
      have q0 : (t0.toList == [48]) = decide ((z0 : Int) = 0) := by rw [e0, zero_eq]
      have q1 : (t1.toList == [48]) = decide ((z1 : Int) = 0) := by rw [e1, zero_eq]
      have mk : ∀ (A B : ByteArray) (p q : Int), A = str p → B = str q → p.natAbs < 10 ^ 100 → 0 < q → q.natAbs < 10 ^ 100 → ∀ W, Calls Tryz.prog 39 #[.string A, .string B] W fun e W' => e = .returned (.tuple #[.agg #[.string (str (Rat.divInt p q).num), .string (str ((Rat.divInt p q).den : Int))], .int .i64 0]) ∧ Below W.heap.size W W' := fun A B p q ea eb hp hq hq2 W => by
        subst ea eb
        have sp := small_pw (k := 100) (by decide) hp
        have sq := small_pw (k := 100) (by decide) hq2
        have := Make_f (sz_str sp) (sz_str sq) W
        rw [makeS_some (num_str sp) (num_str sq), (lng_make hp hq hq2).1] at this
        exact this
      have l7 : (7 : Int).natAbs < 10 ^ 100 := Nat.lt_of_lt_of_le (show 7 < 10 ^ 1 by decide) (Nat.pow_le_pow_right (by decide) (by decide))
      have l0' : (z0 : Int).natAbs < 10 ^ 100 := by rw [Int.natAbs_natCast]; exact l0
      have l0'' : (-(z0 : Int)).natAbs < 10 ^ 100 := by rw [Int.natAbs_neg, Int.natAbs_natCast]; exact l0
      have l1' : (z1 : Int).natAbs < 10 ^ 100 := by rw [Int.natAbs_natCast]; exact l1
      have e7 : (⟨#[55]⟩ : ByteArray) = str 7 := by rfl
      have hs0 : t0.size ≤ 201 := by
        have hz := small_pw (k := 100) (by decide) l0'
        rw [e0, str_size]
        have := txt_length (z0 : Int)
        have : nDig (z0 : Int).natAbs ≤ 200 := by simpa [small] using hz
        omega
      have hc : (z1 = 0 ∨ z1 ≠ 0) ∧ ((S = 1) ∨ (S = 0 ∧ z0 = 0) ∨ (S = 0 ∧ z0 ≠ 0)) := by omega
      clear g0 g1 hL eS p0 p1 p2 p3 ps H0
      obtain ⟨ha, hb⟩ := hc
      rcases ha with ha | ha <;> rcases hb with rfl | ⟨rfl, hb⟩ | ⟨rfl, hb⟩
      · rw [decide_eq_true (by omega)] at q1
        clear q0
        have KM := Lib.hid (mk t0 ⟨#[55]⟩ (z0 : Int) 7 e0 e7 l0' (by decide) l7)
        have HR := Lib.hid (lng_make (p := (z0 : Int)) (q := 7) l0' (by decide) l7).2
        clear mk l7 l0' l0'' l1' e7 e0 e1 l0 l1 ha
        generalize Rat.divInt (z0 : Int) 7 = r at KM HR
        go_wp2_with (first
          | (go_at_call 46; with_reducible refine (PS.out _).mono ?_; rintro e w' ⟨rfl, rfl⟩)
          | (go_at_call 39; with_reducible refine (KM.out _).mono ?_; rintro e w3 ⟨rfl, hb⟩; have h3 := (HL.out.set1 ⟨#[55]⟩).rs.below hb; obtain ⟨_, q1, q2, q3, q4, _, _⟩ := id h3; have H3 := Lib.hid h3; clear hb h3)
          | fail)
        obtain ⟨W5, hW5, p0, p1, hbl⟩ := H3.out.fin2 (str r.num) (str (r.den : Int)) (.cells #[.string (str r.num), .string (str (r.den : Int))] 23)
        rw [hW5]
        clear hW5 q1 q2 q3 q4
        refine bodyPost_ret (v := .agg #[.string (str r.num), .string (str (r.den : Int))]) ?_ rfl ⟨⟨r, HR.out, rfl⟩, hbl⟩
        simp [results, Tryz.results12, go_sem, p0, p1, Result.andThen]
      · rw [decide_eq_true (by omega)] at q1
        rw [decide_eq_true (by omega)] at q0
        have KM := Lib.hid (mk t0 ⟨#[55]⟩ (z0 : Int) 7 e0 e7 l0' (by decide) l7)
        have HR := Lib.hid (lng_make (p := (z0 : Int)) (q := 7) l0' (by decide) l7).2
        clear mk l7 l0' l0'' l1' e7 e0 e1 l0 l1 ha hb
        generalize Rat.divInt (z0 : Int) 7 = r at KM HR
        go_wp2_with (first
          | (go_at_call 46; with_reducible refine (PS.out _).mono ?_; rintro e w' ⟨rfl, rfl⟩)
          | (go_at_call 39; with_reducible refine (KM.out _).mono ?_; rintro e w3 ⟨rfl, hb⟩; have h3 := (HL.out.set1 ⟨#[55]⟩).rs.below hb; obtain ⟨_, q1, q2, q3, q4, _, _⟩ := id h3; have H3 := Lib.hid h3; clear hb h3)
          | fail)
        obtain ⟨W5, hW5, p0, p1, hbl⟩ := H3.out.fin2 (str r.num) (str (r.den : Int)) (.cells #[.string (str r.num), .string (str (r.den : Int))] 23)
        rw [hW5]
        clear hW5 q1 q2 q3 q4
        refine bodyPost_ret (v := .agg #[.string (str r.num), .string (str (r.den : Int))]) ?_ rfl ⟨⟨r, HR.out, rfl⟩, hbl⟩
        simp [results, Tryz.results12, go_sem, p0, p1, Result.andThen]
      · rw [decide_eq_true (by omega)] at q1
        rw [decide_eq_false (by omega)] at q0
        have KM := Lib.hid (mk ((⟨#[45]⟩ : ByteArray) ++ t0) ⟨#[55]⟩ (-(z0 : Int)) 7 (by rw [e0, str_minus hb]) e7 l0'' (by decide) l7)
        have HR := Lib.hid (lng_make (p := (-(z0 : Int))) (q := 7) l0'' (by decide) l7).2
        clear mk l7 l0' l0'' l1' e7 e0 e1 l0 l1 ha hb
        generalize Rat.divInt (-(z0 : Int)) 7 = r at KM HR
        go_wp2_with (first
          | (go_at_call 46; with_reducible refine (PS.out _).mono ?_; rintro e w' ⟨rfl, rfl⟩)
          | (go_at_call 39; with_reducible refine (KM.out _).mono ?_; rintro e w3 ⟨rfl, hb⟩; have h3 := ((HL.out.set1 ⟨#[55]⟩).set0 _).rs.below hb; obtain ⟨_, q1, q2, q3, q4, _, _⟩ := id h3; have H3 := Lib.hid h3; clear hb h3)
          | fail)
        obtain ⟨W5, hW5, p0, p1, hbl⟩ := H3.out.fin2 (str r.num) (str (r.den : Int)) (.cells #[.string (str r.num), .string (str (r.den : Int))] 23)
        rw [hW5]
        clear hW5 q1 q2 q3 q4
        refine bodyPost_ret (v := .agg #[.string (str r.num), .string (str (r.den : Int))]) ?_ rfl ⟨⟨r, HR.out, rfl⟩, hbl⟩
        simp [results, Tryz.results12, go_sem, p0, p1, Result.andThen]
      · rw [decide_eq_false (by omega)] at q1
        clear q0
        have KM := Lib.hid (mk t0 t1 (z0 : Int) (z1 : Int) e0 e1 l0' (by omega) l1')
        have HR := Lib.hid (lng_make (p := (z0 : Int)) (q := (z1 : Int)) l0' (by omega) l1').2
        clear mk l7 l0' l0'' l1' e7 e0 e1 l0 l1 ha
        generalize Rat.divInt (z0 : Int) (z1 : Int) = r at KM HR
        go_wp2_with (first
          | (go_at_call 46; with_reducible refine (PS.out _).mono ?_; rintro e w' ⟨rfl, rfl⟩)
          | (go_at_call 39; with_reducible refine (KM.out _).mono ?_; rintro e w3 ⟨rfl, hb⟩; have h3 := HL.out.rs.below hb; obtain ⟨_, q1, q2, q3, q4, _, _⟩ := id h3; have H3 := Lib.hid h3; clear hb h3)
          | fail)
        obtain ⟨W5, hW5, p0, p1, hbl⟩ := H3.out.fin2 (str r.num) (str (r.den : Int)) (.cells #[.string (str r.num), .string (str (r.den : Int))] 23)
        rw [hW5]
        clear hW5 q1 q2 q3 q4
        refine bodyPost_ret (v := .agg #[.string (str r.num), .string (str (r.den : Int))]) ?_ rfl ⟨⟨r, HR.out, rfl⟩, hbl⟩
        simp [results, Tryz.results12, go_sem, p0, p1, Result.andThen]
      · rw [decide_eq_false (by omega)] at q1
        rw [decide_eq_true (by omega)] at q0
        have KM := Lib.hid (mk t0 t1 (z0 : Int) (z1 : Int) e0 e1 l0' (by omega) l1')
        have HR := Lib.hid (lng_make (p := (z0 : Int)) (q := (z1 : Int)) l0' (by omega) l1').2
        clear mk l7 l0' l0'' l1' e7 e0 e1 l0 l1 ha hb
        generalize Rat.divInt (z0 : Int) (z1 : Int) = r at KM HR
        go_wp2_with (first
          | (go_at_call 46; with_reducible refine (PS.out _).mono ?_; rintro e w' ⟨rfl, rfl⟩)
          | (go_at_call 39; with_reducible refine (KM.out _).mono ?_; rintro e w3 ⟨rfl, hb⟩; have h3 := HL.out.rs.below hb; obtain ⟨_, q1, q2, q3, q4, _, _⟩ := id h3; have H3 := Lib.hid h3; clear hb h3)
          | fail)
        obtain ⟨W5, hW5, p0, p1, hbl⟩ := H3.out.fin2 (str r.num) (str (r.den : Int)) (.cells #[.string (str r.num), .string (str (r.den : Int))] 23)
        rw [hW5]
        clear hW5 q1 q2 q3 q4
        refine bodyPost_ret (v := .agg #[.string (str r.num), .string (str (r.den : Int))]) ?_ rfl ⟨⟨r, HR.out, rfl⟩, hbl⟩
        simp [results, Tryz.results12, go_sem, p0, p1, Result.andThen]
      · rw [decide_eq_false (by omega)] at q1
        rw [decide_eq_false (by omega)] at q0
        have KM := Lib.hid (mk ((⟨#[45]⟩ : ByteArray) ++ t0) t1 (-(z0 : Int)) (z1 : Int) (by rw [e0, str_minus hb]) e1 l0'' (by omega) l1')
        have HR := Lib.hid (lng_make (p := (-(z0 : Int))) (q := (z1 : Int)) l0'' (by omega) l1').2
        clear mk l7 l0' l0'' l1' e7 e0 e1 l0 l1 ha hb
        generalize Rat.divInt (-(z0 : Int)) (z1 : Int) = r at KM HR
        go_wp2_with (first
          | (go_at_call 46; with_reducible refine (PS.out _).mono ?_; rintro e w' ⟨rfl, rfl⟩)
          | (go_at_call 39; with_reducible refine (KM.out _).mono ?_; rintro e w3 ⟨rfl, hb⟩; have h3 := (HL.out.set0 _).rs.below hb; obtain ⟨_, q1, q2, q3, q4, _, _⟩ := id h3; have H3 := Lib.hid h3; clear hb h3)
          | fail)
        obtain ⟨W5, hW5, p0, p1, hbl⟩ := H3.out.fin2 (str r.num) (str (r.den : Int)) (.cells #[.string (str r.num), .string (str (r.den : Int))] 23)
        rw [hW5]
        clear hW5 q1 q2 q3 q4
        refine bodyPost_ret (v := .agg #[.string (str r.num), .string (str (r.den : Int))]) ?_ rfl ⟨⟨r, HR.out, rfl⟩, hbl⟩
        simp [results, Tryz.results12, go_sem, p0, p1, Result.andThen]
end Go.Proofs.YtkekafamfoifmaaGreatDoor

