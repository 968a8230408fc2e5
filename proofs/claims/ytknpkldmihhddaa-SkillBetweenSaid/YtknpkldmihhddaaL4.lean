/- The law SkillGrows: its function answers true. -/
import Derived.Test.YtknpkldmihhddaaL3
import Derived.Test.YtknpkldmihhddaaG1
namespace Go.Proofs.Ytknpkldmihhddaa
open Go.RowKit Go.Shelf
set_option linter.unusedVariables false
set_option linter.unusedSimpArgs false

theorem chance_told (l s : List Int) (d : Int) : ∃ x0 x1 y0 y1 e, chanceV l s d = .tuple #[.agg #[.int .i64 x0, .int .i64 x1], .agg #[.int .i64 y0, .int .i64 y1], .int .i64 e] ∧ (e = 0 → chanceOk l s d = true ∧ x0 = lowC l s d ∧ x1 = sumI l + d ∧ y0 = highC l s d ∧ y1 = sumI l + d) := by
  unfold chanceV; split
  · exact ⟨_, _, _, _, _, rfl, fun _ => ⟨by assumption, rfl, rfl, rfl, rfl⟩⟩
  · exact ⟨_, _, _, _, _, rfl, fun h => by simp at h⟩
theorem mean_told (l s : List Int) (d : Int) : ∃ x y e, meanV l s d = .tuple #[.int .i64 x, .int .i64 y, .int .i64 e] ∧ (e = 0 → meanOk l s d = true ∧ x = lowM l s d ∧ y = highM l s d) := by
  unfold meanV; split
  · exact ⟨_, _, _, rfl, fun _ => ⟨by assumption, rfl, rfl⟩⟩
  · exact ⟨_, _, _, rfl, fun h => by simp at h⟩
theorem better_told (a b : List Int) : ∃ x e, betterV a b = .tuple #[.bool x, .int .i64 e] ∧ (e = 0 → betterOk a b = true ∧ x = betterB a b) := by
  unfold betterV; split
  · exact ⟨_, _, rfl, fun _ => ⟨by assumption, rfl⟩⟩
  · exact ⟨_, _, rfl, fun h => by simp at h⟩
def manyI (l : List Int) (t : Int) : List Int := l.map fun n => wrap64 (n * t)
theorem manyI_len (l : List Int) (t : Int) : (manyI l t).length = l.length := by simp [manyI]
theorem manyI_snoc (l : List Int) (t : Int) (k : Nat) (hk : k < l.length) : manyI (l.take (k + 1)) t = manyI (l.take k) t ++ [wrap64 (l[k] * t)] := by
  unfold manyI; rw [List.take_succ_eq_append_getElem hk, List.map_append]; rfl
theorem sumI_many (l : List Int) (t : Int) (hc : Counts l) (h0 : 1 ≤ t) (h1 : t ≤ 5) : sumI (manyI l t) = t * sumI l := by
  have key : ∀ k, k ≤ l.length → sumI (manyI (l.take k) t) = t * sumI (l.take k) := by
    intro k
    induction k with
    | zero => intro _; simp [manyI, sumI]
    | succ k ih =>
      intro hk
      have b := hc k (by omega)
      have m0 : 0 ≤ l[k] * t := Int.mul_nonneg b.1 (by omega)
      have m1 : l[k] * t ≤ l[k] * 5 := Int.mul_le_mul_of_nonneg_left h1 b.1
      rw [manyI_snoc l t k (by omega), sumI_append, ih (by omega), sumI_snoc l k (by omega)]
      rw [show sumI [wrap64 (l[k] * t)] = wrap64 (l[k] * t) by simp [sumI], show wrap64 (l[k] * t) = l[k] * t by unfold wrap64; omega]
      rw [Int.mul_add, Int.mul_comm l[k] t]
  have := key l.length (Nat.le_refl _)
  rwa [List.take_length] at this
theorem prod_bd {a b : Int} (h0 : -400000000 ≤ a) (h1 : a ≤ 400000000) (h2 : 0 ≤ b) (h3 : b ≤ 400000000) : -160000000000000000 ≤ a * b ∧ a * b ≤ 160000000000000000 := by
  have p := Int.mul_le_mul_of_nonneg_right h1 h2
  have q := Int.mul_le_mul_of_nonneg_right h0 h2
  constructor <;> omega
/-- how far the bounds of a chance can be -/
theorem chance_bd {l s : List Int} {d : Int} (h : chanceOk l s d = true) (hs : s.length ≤ 60) : 0 ≤ lowC l s d ∧ lowC l s d ≤ 200000000 ∧ 0 ≤ highC l s d ∧ highC l s d ≤ 200000000 ∧ 0 ≤ sumI l + d ∧ sumI l + d ≤ 200000000 := by
  simp only [chanceOk, Bool.and_eq_true] at h
  obtain ⟨hc, p1, p2⟩ := Counts.of h.1.1
  obtain ⟨d1, d2⟩ := inR_iff.1 h.2
  have a := sumI_bd l hc l.length (Nat.le_refl _)
  have b := ownI_bd l s hc s.length (Nat.le_refl _)
  rw [List.take_length] at a b
  unfold lowC highC
  split <;> (try split) <;> omega
theorem grows_law {l s : List Int} {d t : Int} (h0 : 1 ≤ t) (h1 : t ≤ 5) (h : chanceOk l s d = true) (h' : chanceOk (manyI l t) s d = true) :
    (highC (manyI l t) s d - lowC (manyI l t) s d) * (sumI l + d) ≤ (highC l s d - lowC l s d) * (sumI (manyI l t) + d) := by
  simp only [chanceOk, Bool.and_eq_true] at h
  obtain ⟨hc, p1, p2⟩ := Counts.of h.1.1
  exact grows_chance (inR_iff.1 h.2).1 h0 (manyI_len l t) h.1.2 hc (sumI_many l t hc h0 h1)
theorem beq_no {e : Int} (h : ¬ e = 0) : (e == 0) = false := by simpa using h
theorem own_lo {w : World} {base e size n : Nat} {v : Value} {xs : List Value} (h : w.ownsRow base e size v n xs) : ∀ k, v.ownBlock = some k → base ≤ k := by
  intro k hk
  rcases h.2 with ⟨rfl, rfl⟩ | ⟨g, cap, cur, rfl, hg, hh, _⟩
  · simp [Value.ownBlock] at hk
  · simp [Value.ownBlock] at hk
    omega
theorem own_none (W : World) (base e : Nat) : W.ownsRow base e 1 (.slice none 0 0) 0 [] := ⟨by simp, .inl ⟨rfl, rfl⟩⟩
theorem Try.infoF : (Try.prog.info? 22).map (fun i => (i.zero, i.size, i.bytes)) = some (some (.int .i64 0), 1, 8) := by kernel_rfl
/-- the value of an outcome: as many steps as there are, from -30000 -/
def atI (st : List Int) : Nat → Int
  | 0 => -30000
  | k + 1 => atI st k + st.getD k 0
def valsI (st : List Int) (n : Nat) : List Int := (List.range n).map fun k => atI st (k + 1)
theorem valsI_len (st : List Int) (n : Nat) : (valsI st n).length = n := by simp [valsI]
theorem valsI_snoc (st : List Int) (n : Nat) : valsI st (n + 1) = valsI st n ++ [atI st (n + 1)] := by simp [valsI, List.range_succ]
def Steps (st : List Int) : Prop := ∀ i, 0 ≤ st.getD i 0 ∧ st.getD i 0 ≤ 65535
theorem atI_bd {st : List Int} (h : Steps st) : ∀ k, -30000 ≤ atI st k ∧ atI st k ≤ 65535 * k
  | 0 => by simp [atI]
  | k + 1 => by have ih := atI_bd h k; have := h k; simp only [atI]; omega
theorem valsI_mono {st : List Int} (h : Steps st) (n : Nat) : ∀ i, i + 1 < (valsI st n).length → (valsI st n).getD i 0 ≤ (valsI st n).getD (i + 1) 0 := by
  intro i hi
  rw [valsI_len] at hi
  have := h (i + 1)
  simp [valsI, hi, show i < n from by omega, atI]
  simp at this
  omega
set_option maxRecDepth 100000 in
theorem SkillGrows_long (A0 A1 A2 A3 : Option Addr) (N0 N1 N2 N3 c0 c1 c2 c3 : Nat) (d ti : Int) (w : World) (h : 60 < N0 ∨ 60 < N1 ∨ 60 < N2 ∨ 60 < N3) :
    Calls Try.prog 5 #[.slice A0 N0 c0, .slice A1 N1 c1, .slice A2 N2 c2, .slice A3 N3 c3, .int .i64 d, .int .u8 ti] w fun e w' => e = .returned (.bool true) ∧ Below w.heap.size w w' := by
  have KO := Aside.mk (fun w => odd_c _ 3 [(A0, N0, c0), (A1, N1, c1), (A3, N3, c3)] _ (Arr.lens w [(A0, N0, c0), (A1, N1, c1), (A3, N3, c3)] 41) (by simp))
  cases ho : ([(A0, N0, c0), (A1, N1, c1), (A3, N3, c3)] : List (Option Addr × Nat × Nat)).any long
  all_goals
    rw [ho] at KO
    simp only [List.map_cons, List.map_nil, sl3, List.length_cons, List.length_nil] at KO
    have h3 : 60 < N2 ∨ 0 = 0 := by omega
  · have h3 : 60 < N2 := by simp [long] at ho; omega
    clear ho h
    go_enter Try.func5, Try.ntmps5
    go_wp2_with fail
    refine (alive_c _).mono ?_
    rintro e w' ⟨rfl, zb⟩
    go_wp2_with fail
    refine (KO.out _).mono ?_
    rintro e w'' ⟨rfl, rfl⟩
    go_wp2
    go_ret
    exact ⟨rfl, (by repeat (with_reducible first | exact Below.refl _ _ | assumption | refine Below.al ?_ _ | refine Below.dr ?_ | refine Below.drn ?_ _ | refine Below.sc ?_ (by simp <;> omega) _ | refine Below.th ?_ (by assumption)))⟩
  · clear ho h h3
    go_enter Try.func5, Try.ntmps5
    go_wp2_with fail
    refine (alive_c _).mono ?_
    rintro e w' ⟨rfl, zb⟩
    go_wp2_with fail
    refine (KO.out _).mono ?_
    rintro e w'' ⟨rfl, rfl⟩
    go_wp2
    go_ret
    exact ⟨rfl, (by repeat (with_reducible first | exact Below.refl _ _ | assumption | refine Below.al ?_ _ | refine Below.dr ?_ | refine Below.drn ?_ _ | refine Below.sc ?_ (by simp <;> omega) _ | refine Below.th ?_ (by assumption)))⟩
set_option maxHeartbeats 4000000 in
set_option maxRecDepth 100000 in
theorem SkillGrows_c (A0 A1 A2 A3 : Option Addr) (c0 c1 c2 c3 : Nat) (l0 l1 l2 l3 : List Int) (d ti : Int) (w : World) (hr0 : Arr w A0 (ints l0)) (hr1 : Arr w A1 (ints l1)) (hr2 : Arr w A2 (l2.map (Value.int .u16))) (hr3 : Arr w A3 (ints l3))
    (n0 : l0.length ≤ 60) (n1 : l1.length ≤ 60) (n2 : l2.length ≤ 60) (n3 : l3.length ≤ 60) (hst : Steps l2) (t0 : 0 ≤ ti) (t1 : ti ≤ 255) :
    Calls Try.prog 5 #[.slice A0 l0.length c0, .slice A1 l1.length c1, .slice A2 l2.length c2, .slice A3 l3.length c3, .int .i64 d, .int .u8 ti] w fun e w' => e = .returned (.bool true) ∧ Below w.heap.size w w' := by
  have KO := Aside.mk (fun w => odd_c _ 3 [(A0, l0.length, c0), (A1, l1.length, c1), (A3, l3.length, c3)] _ (Arr.lens w [(A0, l0.length, c0), (A1, l1.length, c1), (A3, l3.length, c3)] 41) (by simp))
  rw [show ([(A0, l0.length, c0), (A1, l1.length, c1), (A3, l3.length, c3)] : List (Option Addr × Nat × Nat)).any long = false by simp [long]; omega] at KO
  simp only [List.map_cons, List.map_nil, sl3, List.length_cons, List.length_nil] at KO
  obtain ⟨i0, hi, hz0, hz1, hz2⟩ := info_parts Try.infoF
  have HAT := Aside.mk (atI_bd hst)
  have HST := Aside.mk hst
  clear hst
  go_enter Try.func5, Try.ntmps5
  go_wp2_with fail
  refine (alive_c _).mono ?_
  rintro e v0 ⟨rfl, zb⟩
  have HB0 : Below w.heap.size w v0 := zb
  clear zb
  go_wp2_with fail
  refine (KO.out _).mono ?_
  rintro e w'' ⟨rfl, rfl⟩
  have HB1 : Below w.heap.size w (v0.alloc (.cells #[.slice A0 l0.length c0, .slice A1 l1.length c1, .slice A3 l3.length c3] 41)) := Below.al HB0 _
  generalize v0.alloc (.cells #[.slice A0 l0.length c0, .slice A1 l1.length c1, .slice A3 l3.length c3] 41) = v1 at *
  clear HB0 KO
  go_wp2_with fail
  go_loopw [14, 15, 16, 53] (fun v at_ x i wr => ∃ k : Nat, k ≤ l0.length ∧ i = .int .i64 k ∧ at_ = .int .i64 (atI l2 k) ∧ Below v1.heap.size v1 wr ∧ Aside (wr.ownsRow v1.heap.size 22 1 v k (ints (valsI l2 k)))) (fun _ _ _ i _ => l0.length - (intOf i).toNat)
  case atStart => exact ⟨0, Nat.zero_le _, rfl, rfl, (by repeat (with_reducible first | exact Below.refl _ _ | assumption | refine Below.al ?_ _ | refine Below.dr ?_ | refine Below.drn ?_ _ | refine Below.sc ?_ (by simp <;> omega) _ | refine Below.th ?_ (by assumption))), ⟨own_none _ _ _⟩⟩
  case round =>
    obtain ⟨k, hk, rfl, rfl, hB, HO⟩ := hrel
    have ha := HAT.out k
    have hws := hB.size
    by_cases hlt : k < l0.length
    · have hsn := Lib.hid (valsI_snoc l2 k)
      by_cases hst : k < l2.length
      · obtain ⟨b, o, rfl, hb0, hcell⟩ := ((hr2.below HB1).below hB).get1 (i := k) (by simpa using hst)
        rw [List.getElem_map] at hcell
        have hsk := HST.out k
        have hgd : l2.getD k 0 = l2[k] := by simp [hst]
        rw [hgd] at hsk
        have hat := Lib.hid (show atI l2 (k + 1) = atI l2 k + l2[k] by rw [atI, hgd])
        clear hgd
        go_wp2_with (at_builtin; refine wpList_append_own_at _ rfl _ _ 42 rfl v1.heap.size 22 i0 (.int .i64 0) 1 8 Try.underlying42 hi hz0 hz1 hz2 rfl (by decide) _ _ _ rfl (HO.out.alloc _) ⟨wr.heap.size, 0, none⟩ 1 1 [.int .i64 (atI l2 k + l2[k])] rfl rfl (cell_one_new _ _ _) (ints_oneCell .i64 [atI l2 k + l2[k]]) (by unfold maxLen; omega) (by omega) (by simp; omega) ?_; intro v' w1 hown' hgrow hnil hloc; have HO' := Aside.mk hown'; have HG' := Aside.mk hgrow; clear hown' hgrow hnil hloc)
        go_roundw
        case rel => exact ⟨k + 1, by omega, by go_num, by rw [hat.out], Below.grown (Below.al hB _) HG'.out (by simp; omega) (fun k hk => own_lo HO.out k hk), ⟨by rw [hsn.out, hat.out]; simpa [ints] using HO'.out⟩⟩
        case measure => simp [intOf]; omega
      · have hat := Lib.hid (show atI l2 (k + 1) = atI l2 k by rw [atI]; simp [hst])
        go_wp2_with (at_builtin; refine wpList_append_own_at _ rfl _ _ 42 rfl v1.heap.size 22 i0 (.int .i64 0) 1 8 Try.underlying42 hi hz0 hz1 hz2 rfl (by decide) _ _ _ rfl (HO.out.alloc _) ⟨wr.heap.size, 0, none⟩ 1 1 [.int .i64 (atI l2 k)] rfl rfl (cell_one_new _ _ _) (ints_oneCell .i64 [atI l2 k]) (by unfold maxLen; omega) (by omega) (by simp; omega) ?_; intro v' w1 hown' hgrow hnil hloc; have HO' := Aside.mk hown'; have HG' := Aside.mk hgrow; clear hown' hgrow hnil hloc)
        go_roundw
        case rel => exact ⟨k + 1, by omega, by go_num, by rw [hat.out], Below.grown (Below.al hB _) HG'.out (by simp; omega) (fun k hk => own_lo HO.out k hk), ⟨by rw [hsn.out, hat.out]; simpa [ints] using HO'.out⟩⟩
        case measure => simp [intOf]; omega
    · obtain rfl : k = l0.length := by omega
      obtain ⟨A4, c4, rfl, ha4⟩ := Arr.of_own HO.out
      have hvl := Lib.hid (valsI_len l2 l0.length)
      have HB := Below.th HB1 hB
      have hr0 := (hr0.below HB1).below hB
      have hr1 := (hr1.below HB1).below hB
      have hr3 := (hr3.below HB1).below hB
      clear HO hr2 HB1 hB ha hws hlt hk
      generalize hv4 : valsI l2 l0.length = l4 at *
      have hm4 := Lib.hid (hv4 ▸ valsI_mono (fun i => HST.out i) l0.length)
      clear hv4
      obtain ⟨bt, e1, g1, f1⟩ := better_told l0 l1
      obtain ⟨x1, y1, e2, g2, f2⟩ := mean_told l0 l4 d
      obtain ⟨x2, y2, e3, g3, f3⟩ := mean_told l1 l4 d
      have K7 := Aside.mk (fun w hr0 hr1 => Better_c A0 A1 c0 c1 l0 l1 w hr0 hr1 (by omega) (by omega))
      have K3 := Aside.mk (fun w hr0 ha4 => Mean_c A0 A4 c0 c4 l0 l4 d w hr0 ha4 (by omega) (by have := hvl.out; omega))
      have K4 := Aside.mk (fun w hr1 ha4 => Mean_c A1 A4 c1 c4 l1 l4 d w hr1 ha4 (by omega) (by have := hvl.out; omega))
      rw [g1] at K7; rw [g2, hvl.out] at K3; rw [g3, hvl.out] at K4
      clear g1 g2 g3
      have hno : ¬ (e1 = 0 ∧ e2 = 0 ∧ e3 = 0 ∧ bt = true ∧ (x1 < x2 ∨ y1 < y2)) := by
        rintro ⟨rfl, rfl, rfl, rfl, hh⟩
        obtain ⟨b1, b2⟩ := f1 rfl
        obtain ⟨m1, rfl, rfl⟩ := f2 rfl
        obtain ⟨m2, rfl, rfl⟩ := f3 rfl
        simp only [betterOk, meanOk, Bool.and_eq_true, decide_eq_true_eq] at b1 m1 m2
        obtain ⟨ca, p1, p2⟩ := Counts.of b1.1.1
        obtain ⟨d1, d2⟩ := inR_iff.1 m1.2
        have hbb := b2.symm
        have hs : sumI l0 = sumI l1 := by
          have e := moreI_sum l0 l1 l0.length (Nat.le_refl _) (by omega)
          rw [List.take_length, show l1.take l0.length = l1 from by rw [b1.2]; exact List.take_length] at e
          unfold betterB at hbb
          rw [Bool.and_eq_true] at hbb
          have := of_decide_eq_true hbb.2
          omega
        have := better_mean d1 ca b1.2 hvl.out p1 hm4.out hs hbb
        omega
      clear f1 f2 f3
      go_wp2_with fail
      refine (K7.out _ hr0 hr1).mono ?_
      rintro e v3 ⟨rfl, zb⟩
      have HB := Below.th HB zb
      have hr0 := hr0.below zb
      have hr1 := hr1.below zb
      have hr3 := hr3.below zb
      have ha4 := ha4.below zb
      clear zb K7
      go_wp2_with fail
      refine (K3.out _ hr0 ha4).mono ?_
      rintro e v4 ⟨rfl, zb⟩
      have HB := Below.th HB zb
      have hr0 := hr0.below zb
      have hr1 := hr1.below zb
      have hr3 := hr3.below zb
      have ha4 := ha4.below zb
      clear zb K3
      go_wp2_with fail
      refine (K4.out _ hr1 ha4).mono ?_
      rintro e v5 ⟨rfl, zb⟩
      have HB := Below.th HB zb
      have hr0 := hr0.below zb
      have hr3 := hr3.below zb
      clear zb K4 hr1 ha4
      have hcase : ¬ e1 = 0 ∨ (e1 = 0 ∧ ¬ e2 = 0) ∨ (e1 = 0 ∧ e2 = 0 ∧ ¬ e3 = 0) ∨ (e1 = 0 ∧ e2 = 0 ∧ e3 = 0 ∧ bt = false) ∨ (e1 = 0 ∧ e2 = 0 ∧ e3 = 0 ∧ bt = true ∧ ¬ x1 < x2 ∧ ¬ y1 < y2) := by
        cases bt <;> simp at hno ⊢ <;> omega
      clear hno
      obtain ⟨j0, hj, hj0, hj1, hj2⟩ := info_parts Try.infoI
      have hml := Lib.hid (manyI_len l0 (1 + ti % 5))
      obtain ⟨p0, p1, p2, p3, e4, g4, f4⟩ := chance_told l0 l3 d
      obtain ⟨q0, q1, q2, q3, e5, g5, f5⟩ := chance_told (manyI l0 (1 + ti % 5)) l3 d
      have K5 := Aside.mk (fun w hr0 hr3 => Chance_c A0 A3 c0 c3 l0 l3 d w hr0 hr3 (by omega) (by omega))
      have K6 := Aside.mk (fun A5 c5 w ha5 hr3 => Chance_c A5 A3 c5 c3 (manyI l0 (1 + ti % 5)) l3 d w ha5 hr3 (by have := hml.out; omega) (by omega))
      rw [g4] at K5; rw [g5, hml.out] at K6
      have HF := Aside.mk (show e4 = 0 → e5 = 0 → ((0 ≤ p0 ∧ p0 ≤ 200000000) ∧ (0 ≤ p2 ∧ p2 ≤ 200000000) ∧ (0 ≤ p1 ∧ p1 ≤ 200000000)) ∧ ((0 ≤ q0 ∧ q0 ≤ 200000000) ∧ (0 ≤ q2 ∧ q2 ≤ 200000000) ∧ (0 ≤ q1 ∧ q1 ≤ 200000000)) ∧ (q2 - q0) * p1 ≤ (p2 - p0) * q1 from fun z1 z2 => by
        obtain ⟨o1, rfl, rfl, rfl, rfl⟩ := f4 z1
        obtain ⟨o2, rfl, rfl, rfl, rfl⟩ := f5 z2
        have a := chance_bd o1 n3
        have b := chance_bd o2 n3
        exact ⟨⟨⟨a.1, a.2.1⟩, ⟨a.2.2.1, a.2.2.2.1⟩, a.2.2.2.2⟩, ⟨⟨b.1, b.2.1⟩, ⟨b.2.2.1, b.2.2.2.1⟩, b.2.2.2.2⟩, grows_law (by omega) (by omega) o1 o2⟩)
      clear g4 f4 g5 f5
      rcases hcase with h | ⟨rfl, h⟩ | ⟨rfl, rfl, h⟩ | ⟨rfl, rfl, rfl, rfl⟩ | ⟨rfl, rfl, rfl, rfl, h, h'⟩
      all_goals
        try have h2 := beq_no h
        go_wp2_with fail
        go_loopw [26, 28, 123] (fun v x i wr => ∃ k : Nat, k ≤ l0.length ∧ i = .int .i64 k ∧ Below v5.heap.size v5 wr ∧ Aside (wr.ownsRow v5.heap.size 3 1 v k (ints (manyI (l0.take k) (1 + ti % 5))))) (fun _ _ i _ => l0.length - (intOf i).toNat)
        case atStart => exact ⟨0, Nat.zero_le _, rfl, (by repeat (with_reducible first | exact Below.refl _ _ | assumption | refine Below.al ?_ _ | refine Below.dr ?_ | refine Below.drn ?_ _ | refine Below.sc ?_ (by simp <;> omega) _ | refine Below.th ?_ (by assumption))), ⟨own_none _ _ _⟩⟩
        case round =>
          obtain ⟨k, hk, rfl, hB, HO⟩ := hrel
          have hws := hB.size
          by_cases hlt : k < l0.length
          · obtain ⟨b, o, rfl, hb0, hcell⟩ := (hr0.below hB).int_at hlt
            have hsn := Lib.hid (manyI_snoc l0 (1 + ti % 5) k hlt)
            go_wp2_with (at_builtin; refine wpList_append_own_at _ rfl _ _ 41 rfl v5.heap.size 3 j0 (.int .i64 0) 1 8 Try.underlying41 hj hj0 hj1 hj2 rfl (by decide) _ _ _ rfl (HO.out.alloc _) ⟨wr.heap.size, 0, none⟩ 1 1 [.int .i64 (wrap64 (l0[k] * (1 + ti % 5)))] rfl rfl (cell_one_new _ _ _) (ints_oneCell .i64 [wrap64 (l0[k] * (1 + ti % 5))]) (by unfold maxLen; omega) (by omega) (by simp; omega) ?_; intro v' w1 hown' hgrow hnil hloc; have HO' := Aside.mk hown'; have HG' := Aside.mk hgrow; clear hown' hgrow hnil hloc)
            go_roundw
            case rel => exact ⟨k + 1, by omega, by go_num, Below.grown (Below.al hB _) HG'.out (by simp; omega) (fun k hk => own_lo HO.out k hk), ⟨by rw [hsn.out]; simpa [ints] using HO'.out⟩⟩
            case measure => simp [intOf]; omega
          · obtain rfl : k = l0.length := by omega
            have HO1 := HO.out
            rw [List.take_length] at HO1
            obtain ⟨A5, c5, rfl, ha5⟩ := Arr.of_own HO1
            have HB := Below.th HB hB
            have hr0 := hr0.below hB
            have hr3 := hr3.below hB
            clear HO HO1 hB hws hlt hk
            go_wp2_with fail
            refine (K5.out _ hr0 hr3).mono ?_
            rintro e v6 ⟨rfl, zb⟩
            have HB := Below.th HB zb
            have hr3 := hr3.below zb
            have ha5 := ha5.below zb
            clear zb K5 hr0
            go_wp2_with fail
            have B1 : Box ((v6.alloc (.cells #[.int .i64 p0, .int .i64 p1] 46)).alloc (.cells #[.int .i64 p2, .int .i64 p3] 46)) v6.heap.size [.int .i64 p0, .int .i64 p1] := (Box.fresh v6 #[.int .i64 p0, .int .i64 p1] 46 (0, 0)).al _
            have B2 : Box ((v6.alloc (.cells #[.int .i64 p0, .int .i64 p1] 46)).alloc (.cells #[.int .i64 p2, .int .i64 p3] 46)) (v6.heap.size + 1) [.int .i64 p2, .int .i64 p3] := by simpa using Box.fresh (v6.alloc (.cells #[.int .i64 p0, .int .i64 p1] 46)) #[.int .i64 p2, .int .i64 p3] 46 (0, 0)
            refine (K6.out A5 c5 _ (Arr.al (Arr.al ha5 _) _) (Arr.al (Arr.al hr3 _) _)).mono ?_
            rintro e v7 ⟨rfl, zb⟩
            have HB := Below.th (Below.al (Below.al HB _) _) zb
            have B1 := B1.below zb
            have B2 := B2.below zb
            clear zb K6 hr3 ha5
            obtain ⟨z1, b1⟩ := B1
            obtain ⟨z2, b2⟩ := B2
            have b10 := b1 0 (by simp)
            have b11 := b1 1 (by simp)
            have b20 := b2 0 (by simp)
            have b21 := b2 1 (by simp)
            simp at b10 b11 b20 b21
            clear b1 b2
            by_cases y4 : e4 = 0
            · by_cases y5 : e5 = 0
              · obtain ⟨⟨⟨r1, r2⟩, ⟨r3, r4⟩, r5, r6⟩, ⟨⟨s1, s2⟩, ⟨s3, s4⟩, s5, s6⟩, hle⟩ := HF.out y4 y5
                obtain ⟨t2, t3⟩ := prod_bd (a := q2 - q0) (b := p1) (by omega) (by omega) (by omega) (by omega)
                obtain ⟨t4, t5⟩ := prod_bd (a := p2 - p0) (b := q1) (by omega) (by omega) (by omega) (by omega)
                subst y4 y5
                clear HF
                go_wp2
                go_ret
                exact ⟨by simp, (by repeat (with_reducible first | exact Below.refl _ _ | assumption | refine Below.al ?_ _ | refine Below.dr ?_ | refine Below.drn ?_ _ | refine Below.sc ?_ (by simp <;> omega) _ | refine Below.th ?_ (by assumption)))⟩
              · have y6 := beq_no y5
                clear HF
                go_wp2
                go_ret
                exact ⟨rfl, (by repeat (with_reducible first | exact Below.refl _ _ | assumption | refine Below.al ?_ _ | refine Below.dr ?_ | refine Below.drn ?_ _ | refine Below.sc ?_ (by simp <;> omega) _ | refine Below.th ?_ (by assumption)))⟩
            · have y6 := beq_no y4
              clear HF
              go_wp2
              go_ret
              exact ⟨rfl, (by repeat (with_reducible first | exact Below.refl _ _ | assumption | refine Below.al ?_ _ | refine Below.dr ?_ | refine Below.drn ?_ _ | refine Below.sc ?_ (by simp <;> omega) _ | refine Below.th ?_ (by assumption)))⟩
end Go.Proofs.Ytknpkldmihhddaa
