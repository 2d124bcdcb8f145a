/-
  The reference of package rational: Parse.
-/
import Derived.Test.YtkekafamfoifmaaGreatDoorZFqG
import Derived.Test.YtkekafamfoifmaaGreatDoorZPrs
namespace Go.Proofs.YtkekafamfoifmaaGreatDoor
open Go.RowKit Go.Shelf
attribute [local go_sem] Oper.semAt_some

theorem idx_none : ∀ {l : List UInt8}, (∀ j : Nat, l[j]? ≠ some 47) → Lib.index l [47] = -1
  | [], _ => rfl
  | b :: l, h => by
    have h0 : b ≠ 47 := fun e => h 0 (by rw [e]; rfl)
    have ih := idx_none (l := l) fun j => h (j + 1)
    unfold Lib.index
    have hp : ([47] : List UInt8).isPrefixOf (b :: l) = false := by simp [List.isPrefixOf]; exact fun e => h0 e.symm
    rw [hp, ih]
    rfl
theorem cut_none {l : List UInt8} (h : ∀ j : Nat, l[j]? ≠ some 47) : Lib.cut l [47] = (l, [], false) := by
  unfold Lib.cut
  rw [idx_none h, if_neg (by decide)]
theorem cut_at {l : List UInt8} {i : Nat} (h1 : l[i]? = some 47) (h2 : ∀ j, j < i → l[j]? ≠ some 47) : Lib.cut l [47] = (l.take i, l.drop (i + 1), true) := by
  have hi : i < l.length := by
    rcases Nat.lt_or_ge i l.length with h | h
    · exact h
    · rw [List.getElem?_eq_none h] at h1; cases h1
  have occ : ∀ j, j < l.length → Lib.occAt l [47] j = (l[j]? == some 47) := fun j hj => by
    unfold Lib.occAt
    rw [List.drop_eq_getElem_cons hj, List.getElem?_eq_getElem hj]
    by_cases h : l[j] = 47
    · rw [h]; rfl
    · have e1 : ((47 : UInt8) == l[j]) = false := beq_eq_false_iff_ne.2 (fun e => h e.symm)
      have e2 : (some l[j] == some (47 : UInt8)) = false := beq_eq_false_iff_ne.2 (fun e => h (Option.some.inj e))
      rw [e2]
      show (((47 : UInt8) == l[j]) && _) = false
      rw [e1]
      rfl
  have e := Lib.index_first (s := l) (sub := [47]) (i := i) (by omega) (by rw [occ i hi, h1]; rfl) (fun j hj => by rw [occ j (by omega)]; exact beq_eq_false_iff_ne.2 (h2 j hj))
  unfold Lib.cut
  rw [e, if_pos (by omega)]
  rfl
theorem cutND_none {s : ByteArray} (h : ∀ j : Nat, s.data.toList[j]? ≠ some 47) : cutN s = s ∧ cutD s = ⟨#[49]⟩ := by
  unfold cutN cutD
  rw [cut_none h]
  exact ⟨rfl, rfl⟩
theorem cutND_at {s : ByteArray} {i : Nat} (h1 : s.data.toList[i]? = some 47) (h2 : ∀ j, j < i → s.data.toList[j]? ≠ some 47) : cutN s = ⟨(s.data.toList.take i).toArray⟩ ∧ cutD s = ⟨(s.data.toList.drop (i + 1)).toArray⟩ := by
  unfold cutN cutD
  rw [cut_at h1 h2]
  exact ⟨rfl, rfl⟩
/-- What the end of Parse sees: whether the two texts are a fraction, and whether it prints as the text. -/
theorem parse_end {s : ByteArray} : (∃ b, vR (cutN s) (cutD s) = b ∧ (b = false ∧ qN (parseO s) = ⟨#[]⟩ ∧ qD (parseO s) = ⟨#[]⟩ ∧ qE (parseO s) = 40 ∨ b = true ∧ (((printS (cutN s) (cutD s)).toList == s.toList) = false ∧ qN (parseO s) = ⟨#[]⟩ ∧ qD (parseO s) = ⟨#[]⟩ ∧ qE (parseO s) = 40 ∨ ((printS (cutN s) (cutD s)).toList == s.toList) = true ∧ qN (parseO s) = cutN s ∧ qD (parseO s) = cutD s ∧ qE (parseO s) = 0))) := by
  refine ⟨_, rfl, ?_⟩
  by_cases hp : printS (cutN s) (cutD s) = s ∧ s ≠ ⟨#[]⟩
  · obtain ⟨r, h1, h2, h3⟩ := parse_some hp.1 hp.2
    right
    have hr : parseO s = ratO (cutN s) (cutD s) := by unfold parseO; rw [if_pos hp]
    rw [h1] at hr
    refine ⟨vR_true hr.symm, .inr ⟨?_, ?_, ?_, ?_⟩⟩
    · rw [hp.1]; simp
    · rw [h1, h2]; rfl
    · rw [h1, h3]; rfl
    · rw [h1]; rfl
  · have hn : parseO s = none := by unfold parseO; rw [if_neg hp]
    rw [hn]
    cases hv : vR (cutN s) (cutD s) with
    | false => exact .inl ⟨rfl, rfl, rfl, rfl⟩
    | true =>
      refine .inr ⟨rfl, .inl ⟨list_ne2 fun e => hp ⟨e, fun e0 => ?_⟩, rfl, rfl, rfl⟩⟩
      subst e0
      revert hv
      decide +kernel
set_option maxRecDepth 100000 in
set_option maxHeartbeats 4000000 in
theorem Parse_f {s : ByteArray} (hs : s.size ≤ 1000) (w : World) :
    Calls Tryz.prog 19 #[.string s] w fun e W' => e = .returned (.tuple #[.agg #[.string (qN (parseO s)), .string (qD (parseO s))], .int .i64 (qE (parseO s))]) ∧ Below w.heap.size w W' := by
  have zc1 : Sz (cutN s) := by have := cutN_size s; unfold Sz; omega
  have zc2 : Sz (cutD s) := by have := cutD_size s; unfold Sz; omega
  have v := fun W => Valid_f zc1 zc2 W
  have p := fun W => Print_f zc1 zc2 W
  have hend := parse_end (s := s)
  have HN := Lib.hid (cutND_none (s := s))
  have HT := Lib.hid (fun i => cutND_at (s := s) (i := i))
  generalize cutN s = c1 at v p hend HN HT
  generalize cutD s = c2 at v p hend HN HT
  generalize printS c1 c2 = pr at p hend
  obtain ⟨b, hb, hend⟩ := hend
  rw [hb] at v
  generalize qN (parseO s) = rN at hend ⊢
  generalize qD (parseO s) = rD at hend ⊢
  generalize qE (parseO s) = rE at hend ⊢
  have HEND := Lib.hid hend
  have V := Lib.hid v
  have P := Lib.hid p
  have HAT := Lib.hid (fun (k : Nat) (h : k < s.size) => at_data h)
  have H0 := Lib.hid (CpAt.start w ⟨#[]⟩ ⟨#[]⟩ s ⟨#[49]⟩ 23)
  have HSZ := Lib.hid (size_list s)
  clear hb hend v p zc1 zc2
  go_enter Tryz.func19, Tryz.ntmps19
  go_wp2
  go_loopw [5] (fun i wr => ∃ j : Nat, j ≤ s.size ∧ i = .int .i64 (j : Int) ∧ (∀ m, m < j → s.data.toList[m]? ≠ some 47) ∧ CpAt ⟨#[]⟩ ⟨#[]⟩ s ⟨#[49]⟩ w wr) (fun i _ => s.size - (intOf i).toNat)
  case atStart =>
    exact ⟨0, Nat.zero_le _, rfl, fun m h => absurd h (Nat.not_lt_zero m), H0.out⟩
  case round =>
    obtain ⟨k, hk, rfl, hall, hc⟩ := hrel
    have HALL := Lib.hid hall
    have HC := Lib.hid hc
    obtain ⟨_, x0, x1, y0, y1, f0, f1, g0, g1, _⟩ := id hc
    clear hall hc
    by_cases hlt : k < s.size
    · have hc := HAT.out k hlt
      by_cases h1 : (s[k]'hlt).toNat = 47
      · have h47 : s.data.toList[k]? = some 47 := by rw [hc]; exact congrArg some (UInt8.toNat_inj.1 h1)
        obtain ⟨e1, e2⟩ := HT.out k h47 HALL.out
        have e3 : c1 = s.extract 0 k := by
          rw [e1]
          apply ByteArray.ext
          apply Array.toList_inj.1
          rw [ByteArray.data_extract]
          simp
        have e4 : c2 = s.extract (k + 1) s.size := by
          rw [e2]
          apply ByteArray.ext
          apply Array.toList_inj.1
          rw [Lib.extract_to_end]
        subst e3 e4
        have hset := ((HC.out.set2 (s.extract 0 k)).set3 (s.extract (k + 1) s.size)).drew
        have HB := Lib.hid hset
        obtain ⟨_, z0, z1, z2, z3, k0, k1, k2, k3, _⟩ := id hset
        clear h47 HN HT hset e1 e2
        have hend := HEND.out
        clear HEND
        rcases hend with ⟨rfl, rfl, rfl, rfl⟩ | ⟨rfl, ⟨hp, rfl, rfl, rfl⟩ | ⟨hp, o1, o2, rfl⟩⟩
        · go_wp2
          go_region
          go_wp2_with (first
            | (go_at_call 40; with_reducible refine (V.out _).mono ?_; rintro e w1 ⟨rfl, hb⟩; have h1 := HB.out.below hb; obtain ⟨_, x0', x1', y0', y1', f0', f1', g0', g1', _⟩ := id h1; have H1 := Lib.hid h1; clear hb h1)
            | fail)
          obtain ⟨W5, hW5, p0, p1, hbl⟩ := H1.out.rs.fin ⟨#[]⟩ ⟨#[]⟩
          rw [hW5]
          clear hW5
          refine bodyPost_ret (v := .tuple #[.agg #[.string ⟨#[]⟩, .string ⟨#[]⟩], .int .i64 40]) ?_ rfl ⟨rfl, hbl⟩
          simp [results, Tryz.results19, go_sem, p0, p1, Result.andThen]
        · go_wp2
          go_region
          go_wp2_with (first
            | (go_at_call 40; with_reducible refine (V.out _).mono ?_; rintro e w1 ⟨rfl, hb⟩; have h1 := HB.out.below hb; obtain ⟨_, x0', x1', y0', y1', f0', f1', g0', g1', _⟩ := id h1; have H1 := Lib.hid h1; clear hb h1)
            | (go_at_call 16; with_reducible refine (P.out _).mono ?_; rintro e w2 ⟨rfl, hb⟩; have h2 := H1.out.below hb; obtain ⟨_, x0'', x1'', y0'', y1'', f0'', f1'', g0'', g1'', _⟩ := id h2; have H2 := Lib.hid h2; clear hb h2)
            | fail)
          obtain ⟨W5, hW5, p0, p1, hbl⟩ := H2.out.rs.fin ⟨#[]⟩ ⟨#[]⟩
          rw [hW5]
          clear hW5
          refine bodyPost_ret (v := .tuple #[.agg #[.string ⟨#[]⟩, .string ⟨#[]⟩], .int .i64 40]) ?_ rfl ⟨rfl, hbl⟩
          simp [results, Tryz.results19, go_sem, p0, p1, Result.andThen]
        · subst o1 o2
          go_wp2
          go_region
          go_wp2_with (first
            | (go_at_call 40; with_reducible refine (V.out _).mono ?_; rintro e w1 ⟨rfl, hb⟩; have h1 := HB.out.below hb; obtain ⟨_, x0', x1', y0', y1', f0', f1', g0', g1', _⟩ := id h1; have H1 := Lib.hid h1; clear hb h1)
            | (go_at_call 16; with_reducible refine (P.out _).mono ?_; rintro e w2 ⟨rfl, hb⟩; have h2 := H1.out.below hb; obtain ⟨_, x0'', x1'', y0'', y1'', f0'', f1'', g0'', g1'', _⟩ := id h2; have H2 := Lib.hid h2; clear hb h2)
            | fail)
          obtain ⟨W5, hW5, p0, p1, hbl⟩ := H2.out.rs.fin (s.extract 0 k) (s.extract (k + 1) s.size)
          rw [hW5]
          clear hW5
          refine bodyPost_ret (v := .tuple #[.agg #[.string (s.extract 0 k), .string (s.extract (k + 1) s.size)], .int .i64 0]) ?_ rfl ⟨rfl, hbl⟩
          simp [results, Tryz.results19, go_sem, p0, p1, Result.andThen]
      · have HNE : s.data.toList[k]? ≠ some 47 := fun e => h1 (by rw [hc] at e; rw [Option.some.inj e]; rfl)
        go_wp2
        refine ⟨⟨k + 1, by omega, by go_num, fun m hm => ?_, HC.out⟩, by simp only [intOf]; omega⟩
        rcases Nat.lt_succ_iff_lt_or_eq.1 hm with h | h
        · exact HALL.out m h
        · rw [h]
          exact HNE
    · obtain rfl : k = s.size := by omega
      obtain ⟨e1, e2⟩ := HN.out (fun m => by
        rcases Nat.lt_or_ge m s.size with h | h
        · exact HALL.out m h
        · rw [List.getElem?_eq_none (by rw [HSZ.out]; exact h)]
          exact fun e => nomatch e)
      have HB := Lib.hid (show CpAt ⟨#[]⟩ ⟨#[]⟩ c1 c2 w wr by rw [e1, e2]; exact HC.out)
      rw [← e1] at y0
      rw [← e2] at y1
      clear HN HT e1 e2
      have hend := HEND.out
      clear HEND
      rcases hend with ⟨rfl, rfl, rfl, rfl⟩ | ⟨rfl, ⟨hp, rfl, rfl, rfl⟩ | ⟨hp, o1, o2, rfl⟩⟩
      · skip
        go_wp2_with (first
          | (go_at_call 40; with_reducible refine (V.out _).mono ?_; rintro e w1 ⟨rfl, hb⟩; have h1 := HB.out.below hb; obtain ⟨_, x0', x1', y0', y1', f0', f1', g0', g1', _⟩ := id h1; have H1 := Lib.hid h1; clear hb h1)
          | fail)
        obtain ⟨W5, hW5, p0, p1, hbl⟩ := H1.out.rs.fin ⟨#[]⟩ ⟨#[]⟩
        rw [hW5]
        clear hW5
        refine bodyPost_ret (v := .tuple #[.agg #[.string ⟨#[]⟩, .string ⟨#[]⟩], .int .i64 40]) ?_ rfl ⟨rfl, hbl⟩
        simp [results, Tryz.results19, go_sem, p0, p1, Result.andThen]
      · skip
        go_wp2_with (first
          | (go_at_call 40; with_reducible refine (V.out _).mono ?_; rintro e w1 ⟨rfl, hb⟩; have h1 := HB.out.below hb; obtain ⟨_, x0', x1', y0', y1', f0', f1', g0', g1', _⟩ := id h1; have H1 := Lib.hid h1; clear hb h1)
          | (go_at_call 16; with_reducible refine (P.out _).mono ?_; rintro e w2 ⟨rfl, hb⟩; have h2 := H1.out.below hb; obtain ⟨_, x0'', x1'', y0'', y1'', f0'', f1'', g0'', g1'', _⟩ := id h2; have H2 := Lib.hid h2; clear hb h2)
          | fail)
        obtain ⟨W5, hW5, p0, p1, hbl⟩ := H2.out.rs.fin ⟨#[]⟩ ⟨#[]⟩
        rw [hW5]
        clear hW5
        refine bodyPost_ret (v := .tuple #[.agg #[.string ⟨#[]⟩, .string ⟨#[]⟩], .int .i64 40]) ?_ rfl ⟨rfl, hbl⟩
        simp [results, Tryz.results19, go_sem, p0, p1, Result.andThen]
      · subst o1 o2
        skip
        go_wp2_with (first
          | (go_at_call 40; with_reducible refine (V.out _).mono ?_; rintro e w1 ⟨rfl, hb⟩; have h1 := HB.out.below hb; obtain ⟨_, x0', x1', y0', y1', f0', f1', g0', g1', _⟩ := id h1; have H1 := Lib.hid h1; clear hb h1)
          | (go_at_call 16; with_reducible refine (P.out _).mono ?_; rintro e w2 ⟨rfl, hb⟩; have h2 := H1.out.below hb; obtain ⟨_, x0'', x1'', y0'', y1'', f0'', f1'', g0'', g1'', _⟩ := id h2; have H2 := Lib.hid h2; clear hb h2)
          | fail)
        obtain ⟨W5, hW5, p0, p1, hbl⟩ := H2.out.rs.fin rN rD
        rw [hW5]
        clear hW5
        refine bodyPost_ret (v := .tuple #[.agg #[.string rN, .string rD], .int .i64 0]) ?_ rfl ⟨rfl, hbl⟩
        simp [results, Tryz.results19, go_sem, p0, p1, Result.andThen]
end Go.Proofs.YtkekafamfoifmaaGreatDoor

