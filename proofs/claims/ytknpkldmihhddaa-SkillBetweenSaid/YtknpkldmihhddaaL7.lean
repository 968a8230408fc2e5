/- The law SkillBetween: its function answers true. -/
import Derived.Test.YtknpkldmihhddaaL6
import Derived.Test.YtknpkldmihhddaaQ
namespace Go.Proofs.Ytknpkldmihhddaa
open Go.RowKit Go.Shelf
set_option linter.unusedVariables false
set_option linter.unusedSimpArgs false
theorem mean_told2 (l s : List Int) (d : Int) : ∃ x y e, meanV l s d = .tuple #[.int .i64 x, .int .i64 y, .int .i64 e] ∧ ((e = 0 ∧ meanOk l s d = true ∧ x = lowM l s d ∧ y = highM l s d) ∨ (e = 2 ∧ x = 0 ∧ y = 0)) := by
  unfold meanV; split
  · exact ⟨_, _, _, rfl, .inl ⟨rfl, by assumption, rfl, rfl⟩⟩
  · exact ⟨_, _, _, rfl, .inr ⟨rfl, rfl, rfl⟩⟩
theorem mean_small {l v : List Int} {d : Int} (h : meanOk l v d = true) : 1 ≤ sumI l + d ∧ sumI l + d ≤ 50000000 ∧ -68719476736 ≤ lowM l v d ∧ lowM l v d ≤ 68719476736 ∧ -68719476736 ≤ highM l v d ∧ highM l v d ≤ 68719476736 ∧ Vals v := by
  simp only [meanOk, Bool.and_eq_true, decide_eq_true_eq, Bool.not_eq_true'] at h
  obtain ⟨⟨⟨hc, hv⟩, hb⟩, hd⟩ := h
  obtain ⟨hC, n1, n2⟩ := Counts.of hc
  obtain ⟨d1, d2⟩ := inR_iff.1 hd
  have V := Vals.of hb
  have s := sumI_bd l hC l.length (Nat.le_refl _)
  rw [List.take_length] at s
  have key : ∀ k, k ≤ l.length → -68719476736 * sumI (l.take k) ≤ dotI (l.take k) (v.take k) ∧ dotI (l.take k) (v.take k) ≤ 68719476736 * sumI (l.take k) := by
    intro k
    induction k with
    | zero => intro _; simp [sumI, dotI]
    | succ k ih =>
      intro hk
      have ih := ih (by omega)
      have a := hC k (by omega)
      have b := V k (by omega)
      have p := Int.mul_le_mul_of_nonneg_left b.2 a.1
      have q := Int.mul_le_mul_of_nonneg_left b.1 a.1
      rw [dotI_snoc l v k (by omega) (by omega), sumI_snoc l k (by omega)]
      omega
  have hk := key l.length (Nat.le_refl _)
  rw [List.take_length, show v.take l.length = v from List.take_of_length_le (by omega)] at hk
  obtain ⟨m1, m2⟩ := minI_mem v (by omega) _ _ V
  obtain ⟨x1, x2⟩ := maxI_mem v (by omega) _ _ V
  have p1 := Int.mul_le_mul_of_nonneg_left m1 (show 0 ≤ d by omega)
  have p2 := Int.mul_le_mul_of_nonneg_left m2 (show 0 ≤ d by omega)
  have p3 := Int.mul_le_mul_of_nonneg_left x1 (show 0 ≤ d by omega)
  have p4 := Int.mul_le_mul_of_nonneg_left x2 (show 0 ≤ d by omega)
  have hS : 0 < sumI l + d := by omega
  have fdiv : ∀ X : Int, -68719476736 * (sumI l + d) ≤ X → X ≤ 68719476736 * (sumI l + d) → -68719476736 ≤ X / (sumI l + d) ∧ X / (sumI l + d) ≤ 68719476736 := fun X h1 h2 => by
    constructor
    · exact Int.le_ediv_of_mul_le hS h1
    · exact Int.ediv_le_of_le_mul hS h2
  refine ⟨by omega, by omega, ?_, ?_, ?_, ?_, V⟩
  · simp only [lowM, shr, if_true]; exact (fdiv _ (by omega) (by omega)).1
  · simp only [lowM, shr, if_true]; exact (fdiv _ (by omega) (by omega)).2
  · simp only [highM, shr]; rw [if_neg (by decide)]; have := (fdiv (-(d * maxI v + dotI l v)) (by omega) (by omega)).2; omega
  · simp only [highM, shr]; rw [if_neg (by decide)]; have := (fdiv (-(d * maxI v + dotI l v)) (by omega) (by omega)).1; omega
theorem bd_prod {a b : Int} (h0 : -68719476736 ≤ a) (h1 : a ≤ 68719476736) (h2 : 0 ≤ b) (h3 : b ≤ 50000000) : -3435973836800000000 ≤ a * b ∧ a * b ≤ 3435973836800000000 := by
  have p := Int.mul_le_mul_of_nonneg_right h1 h2
  have q := Int.mul_le_mul_of_nonneg_right h0 h2
  constructor <;> omega
set_option maxHeartbeats 4000000 in
set_option maxRecDepth 100000 in
theorem SkillBetween_c (A0 A1 A2 A4 : Option Addr) (c0 c1 c2 c4 : Nat) (l0 l1 l2 l4 : List Int) (ti : Int) (w : World) (hr0 : Arr w A0 (ints l0)) (hr1 : Arr w A1 (ints l1)) (hr2 : Arr w A2 (ints l2)) (hr4 : Arr w A4 (l4.map (Value.int .u8)))
    (n0 : l0.length ≤ 60) (n1 : l1.length ≤ 60) (n2 : l2.length ≤ 60) (n4 : l4.length ≤ 200) (hos : ∀ i, 0 ≤ l4.getD i 0 ∧ l4.getD i 0 ≤ 255) (t0 : 0 ≤ ti) (t1 : ti ≤ 255) :
    Calls Try.prog 4 #[.slice A0 l0.length c0, .slice A1 l1.length c1, .slice A2 l2.length c2, .int .u8 ti, .slice A4 l4.length c4] w fun e w' => e = .returned (.bool true) ∧ Below w.heap.size w w' := by
  have KO := Aside.mk (fun w => odd_c _ 2 [(A0, l0.length, c0), (A1, l1.length, c1)] _ (Arr.lens w [(A0, l0.length, c0), (A1, l1.length, c1)] 41) (by simp))
  rw [show ([(A0, l0.length, c0), (A1, l1.length, c1)] : List (Option Addr × Nat × Nat)).any long = false by simp [long]; omega] at KO
  simp only [List.map_cons, List.map_nil, sl3, List.length_cons, List.length_nil] at KO
  obtain ⟨t, ht⟩ : ∃ t : Nat, 1 + ti % 100 = t := ⟨(1 + ti % 100).toNat, by omega⟩
  have ht1 : 1 ≤ t := by omega
  have ht2 : t ≤ 100 := by omega
  obtain ⟨x2, y2, e2, g2, f2⟩ := mean_told2 l0 l2 (1 + ti % 100)
  have K1 := Aside.mk (fun w hr0 hr1 => Chance_c A0 A1 c0 c1 l0 l1 (1 + ti % 100) w hr0 hr1 (by omega) (by omega))
  have K2 := Aside.mk (fun w hr0 hr2 => Mean_c A0 A2 c0 c2 l0 l2 (1 + ti % 100) w hr0 hr2 (by omega) (by omega))
  rw [g2] at K2
  clear g2
  cases h1 : chanceOk l0 l1 (1 + ti % 100)
  · rw [chance_none h1] at K1
    clear h1 f2 ht ht1 ht2 hos
    go_enter Try.func4, Try.ntmps4
    go_wp2_with fail
    refine (alive_c _).mono ?_
    rintro e v0 ⟨rfl, zb⟩
    have HB0 : Below w.heap.size w v0 := zb
    clear zb
    go_wp2_with fail
    refine (KO.out _).mono ?_
    rintro e w'' ⟨rfl, rfl⟩
    have HB1 : Below w.heap.size w (v0.alloc (.cells #[.slice A0 l0.length c0, .slice A1 l1.length c1] 41)) := Below.al HB0 _
    generalize v0.alloc (.cells #[.slice A0 l0.length c0, .slice A1 l1.length c1] 41) = v1 at *
    clear HB0 KO
    go_wp2_with fail
    refine (K1.out _ (hr0.below HB1) (hr1.below HB1)).mono ?_
    rintro e v2 ⟨rfl, zb⟩
    have HB := Below.th HB1 zb
    have hr0 := (hr0.below HB1).below zb
    have hr2 := (hr2.below HB1).below zb
    clear zb K1 HB1 hr1 hr4
    go_wp2_with fail
    have B1 : Box ((v2.alloc (.cells #[.int .i64 0, .int .i64 0] 46)).alloc (.cells #[.int .i64 0, .int .i64 0] 46)) v2.heap.size [.int .i64 0, .int .i64 0] := (Box.fresh v2 #[.int .i64 0, .int .i64 0] 46 (0, 0)).al _
    have B2 : Box ((v2.alloc (.cells #[.int .i64 0, .int .i64 0] 46)).alloc (.cells #[.int .i64 0, .int .i64 0] 46)) (v2.heap.size + 1) [.int .i64 0, .int .i64 0] := by simpa using Box.fresh (v2.alloc (.cells #[.int .i64 0, .int .i64 0] 46)) #[.int .i64 0, .int .i64 0] 46 (0, 0)
    refine (K2.out _ (Arr.al (Arr.al hr0 _) _) (Arr.al (Arr.al hr2 _) _)).mono ?_
    rintro e v3 ⟨rfl, zb⟩
    have HB := Below.th (Below.al (Below.al HB _) _) zb
    have B1 := B1.below zb
    have B2 := B2.below zb
    clear zb K2 hr0 hr2
    obtain ⟨z1, b1⟩ := B1
    obtain ⟨z2, b2⟩ := B2
    have b10 := b1 0 (by simp)
    have b11 := b1 1 (by simp)
    have b20 := b2 0 (by simp)
    have b21 := b2 1 (by simp)
    simp at b10 b11 b20 b21
    clear b1 b2
    go_wp2
    go_ret
    exact ⟨rfl, (by repeat (with_reducible first | exact Below.refl _ _ | assumption | refine Below.al ?_ _ | refine Below.dr ?_ | refine Below.drn ?_ _ | refine Below.sc ?_ (by simp <;> omega) _ | refine Below.th ?_ (by assumption)))⟩
  · rw [chance_some h1] at K1
    have hP := between_chance (l := l0) (s := l1) (os := l4) ht1 (by rw [← ht]; exact h1)
    rw [← ht] at hP
    obtain ⟨hc2, P1, P2, P3, P4, P5⟩ := hP
    have hC : Counts l0 ∧ 1 ≤ l0.length ∧ l0.length ≤ 49 ∧ eventB l1 l0.length = true := by
      simp only [chanceOk, Bool.and_eq_true] at h1
      obtain ⟨a, b, c⟩ := Counts.of h1.1.1
      exact ⟨a, b, c, h1.1.2⟩
    obtain ⟨hC, m1, m2, he⟩ := hC
    have HM := Aside.mk (fun h => between_mean (l := l0) (v := l2) (os := l4) (t := t) ht1 h)
    rw [← ht] at HM
    have HBD := Aside.mk (fun i hi => bumps_bd hC l4 (t := t) ht2 (i := i) hi)
    have hal := bumps_len l0 l4 t
    have hml := marks_len l0.length l1
    have HE := Aside.mk (fun k hk => event_at he (k := k) hk)
    have hB1 := chance_bd h1 n1
    have hrl := rest_len (marks l0.length l1) l0.length
    have hB2 := chance_bd hc2 (by omega)
    have KM := Aside.mk (fun w hr0 hr4 => more_c A0 A4 c0 c4 l0 l4 (1 + ti % 100) t w hr0 hr4 m1 n0 n4 hos ht ht2 hC)
    have KC := Aside.mk (fun A c w hr0 hr1 => Chance_c A0 A c0 c l0 (rest (marks l0.length l1) l0.length) (1 + ti % 100) w hr0 hr1 (by omega) (by omega))
    rw [chance_some hc2] at KC
    have HMK := Aside.mk (fun k hk => marks_snoc l0.length l1 k hk)
    have HML := Aside.mk (fun k => marks_len l0.length (l1.take k))
    have PP := Aside.mk (And.intro P1 (And.intro P2 (And.intro P3 (And.intro P4 P5))))
    have BB := Aside.mk (And.intro hB1 hB2)
    have HAL := Lib.hid hal
    have HMS := Lib.hid hml
    clear he h1 hc2 P1 P2 P3 P4 P5 hos hB1 hB2 hal hml hrl
    obtain ⟨j0, hj, hj0, hj1, hj2⟩ := info_parts Try.infoB
    obtain ⟨i0, hi, hz0, hz1, hz2⟩ := info_parts Try.infoI
    have HT := Lib.hid ht
    have F2 := Aside.mk f2
    have hSb := sumI_bd l0 hC l0.length (Nat.le_refl _)
    rw [List.take_length] at hSb
    have S0 : 0 ≤ sumI l0 + (1 + ti % 100) := by omega
    have S1 : sumI l0 + (1 + ti % 100) ≤ 50000000 := by omega
    clear ht f2 hSb hC
    go_enter Try.func4, Try.ntmps4
    go_wp2_with fail
    refine (alive_c _).mono ?_
    rintro e v0 ⟨rfl, zb⟩
    have HB0 : Below w.heap.size w v0 := zb
    clear zb
    go_wp2_with fail
    refine (KO.out _).mono ?_
    rintro e w'' ⟨rfl, rfl⟩
    have HB1 : Below w.heap.size w (v0.alloc (.cells #[.slice A0 l0.length c0, .slice A1 l1.length c1] 41)) := Below.al HB0 _
    generalize v0.alloc (.cells #[.slice A0 l0.length c0, .slice A1 l1.length c1] 41) = v1 at *
    clear HB0 KO
    go_wp2_with fail
    refine (K1.out _ (hr0.below HB1) (hr1.below HB1)).mono ?_
    rintro e v2 ⟨rfl, zb⟩
    have HB := Below.th HB1 zb
    have hr0 := (hr0.below HB1).below zb
    have hr1 := (hr1.below HB1).below zb
    have hr2 := (hr2.below HB1).below zb
    have hr4 := (hr4.below HB1).below zb
    clear zb K1 HB1
    generalize sumI l0 + (1 + ti % 100) = S at *
    generalize lowC l0 l1 (1 + ti % 100) = lo at *
    generalize highC l0 l1 (1 + ti % 100) = hi1 at *
    go_wp2_with fail
    have B1 : Box ((v2.alloc (.cells #[.int .i64 lo, .int .i64 S] 46)).alloc (.cells #[.int .i64 hi1, .int .i64 S] 46)) v2.heap.size [.int .i64 lo, .int .i64 S] := (Box.fresh v2 #[.int .i64 lo, .int .i64 S] 46 (0, 0)).al _
    have B2 : Box ((v2.alloc (.cells #[.int .i64 lo, .int .i64 S] 46)).alloc (.cells #[.int .i64 hi1, .int .i64 S] 46)) (v2.heap.size + 1) [.int .i64 hi1, .int .i64 S] := by simpa using Box.fresh (v2.alloc (.cells #[.int .i64 lo, .int .i64 S] 46)) #[.int .i64 hi1, .int .i64 S] 46 (0, 0)
    refine (K2.out _ (Arr.al (Arr.al hr0 _) _) (Arr.al (Arr.al hr2 _) _)).mono ?_
    rintro e v3 ⟨rfl, zb⟩
    have HB := Below.th (Below.al (Below.al HB _) _) zb
    have B1 := B1.below zb
    have B2 := B2.below zb
    have hr0 := ((hr0.al _).al _).below zb
    have hr1 := ((hr1.al _).al _).below zb
    have hr2 := ((hr2.al _).al _).below zb
    have hr4 := ((hr4.al _).al _).below zb
    clear zb K2
    go_wp2_with fail
    refine (KM.out _ hr0 hr4).mono ?_
    rintro e v4 ⟨A5, c5, rfl, ha5, zb⟩
    have HB := Below.th HB zb
    have B1 := B1.below zb
    have B2 := B2.below zb
    have hr0 := hr0.below zb
    have hr1 := hr1.below zb
    have hr2 := hr2.below zb
    clear zb KM hr4
    go_wp2_with fail
    obtain ⟨v5, hrun, hown, hgr⟩ := run_make_full (P := Try.prog) v4.drew v4.heap.size 52 4 j0 (.bool false) 1 Try.underlying52 hj hj0 hj1 .i64 .i64 l0.length (by rw [hj2]; omega) (by unfold maxLen; omega) (Nat.le_refl _)
    rw [made_bools] at hown
    have HO := Aside.mk hown
    have HG := Aside.mk hgr
    clear hown hgr
    go_region
    have HV5 : Below v4.heap.size v4 v5 := ((Below.refl _ _).drew).grown HG.out (Nat.le_refl _) (by simp)
    clear hrun
    go_wp2_with fail
    go_loopw [24, 96] (fun x i wr => ∃ k : Nat, k ≤ l1.length ∧ i = .int .i64 k ∧ Below v4.heap.size v4 wr ∧ Aside (wr.ownsRow v4.heap.size 4 1 (.slice (some ⟨v4.heap.size, 0, none⟩) l0.length l0.length) l0.length (bools (marks l0.length (l1.take k))))) (fun _ i _ => l1.length - (intOf i).toNat)
    case atStart => exact ⟨0, Nat.zero_le _, rfl, HV5, HO⟩
    case round =>
      obtain ⟨k, hk, rfl, hB, HO⟩ := hrel
      by_cases hlt : k < l1.length
      · obtain ⟨b, o, rfl, hb0, hcell⟩ := (hr1.below hB).int_at hlt
        have hek := HE.out k hlt
        have hjn : l1[k].toNat < l0.length := by omega
        have hlen := HML.out k
        obtain ⟨x0, hown0⟩ : ∃ x, wr.cell? ⟨v4.heap.size, l1[k].toNat, none⟩ = some (.bool x) := ⟨(marks l0.length (l1.take k))[l1[k].toNat], by
          rw [HO.out.cellAt _ (by rw [Nat.mul_one]; exact hjn)]; simp [bools, hlen, hjn]⟩
        have hfz0 := HO.out.frozenAt l1[k].toNat
        have HST := Aside.mk (HO.out.stored l1[k].toNat (.bool true))
        have HS := Lib.hid (HMK.out k hlt)
        clear hlen
        go_wp2
        go_roundw
        case rel => exact ⟨k + 1, by omega, by go_num, (by repeat (with_reducible first | exact Below.refl _ _ | assumption | refine Below.al ?_ _ | refine Below.dr ?_ | refine Below.drn ?_ _ | refine Below.sc ?_ (by simp <;> omega) _ | refine Below.th ?_ (by assumption))), ⟨by rw [HS.out, ← bools_set]; exact HST.out.1⟩⟩
        case measure => simp [intOf]; omega
      · obtain rfl : k = l1.length := by omega
        have HO' := HO.out
        rw [List.take_length] at HO'
        have hI := Arr.own HO'
        have HB := Below.th HB hB
        have hr0 := hr0.below hB
        have hr2 := hr2.below hB
        have ha5 := ha5.below hB
        have B1 := B1.below hB
        have B2 := B2.below hB
        clear HO HO' HG HV5 HE HMK HML hB hr1 hlt hk
        have HAL' := HAL.out
        have HMS' := HMS.out
        generalize marks l0.length l1 = ms at *
        generalize bumps l0 l4 t = all at *
        clear HAL HMS
        have e0 : (l0.length : Int) = (all.length : Int) := by omega
        have HN := Lib.hid HAL'
        have HMN := Lib.hid HMS'
        clear e0 HAL' HMS'
        obtain ⟨v6, rfl⟩ : ∃ v : World, v = wr := ⟨_, rfl⟩
        go_wp2_with fail
        go_loopw [20, 21, 25, 26, 27, 106] (fun n m v x y i wr => ∃ (k : Nat) (s p : Int), k ≤ l0.length ∧ i = .int .i64 k ∧ n = .int .i64 s ∧ m = .int .i64 p ∧ Below v6.heap.size v6 wr ∧ Aside (wr.ownsRow v6.heap.size 3 1 v (rest ms k).length (ints (rest ms k))) ∧ Hid (s = sumI (all.take k) ∧ p = pick (all.take k) (ms.take k))) (fun _ _ _ _ _ i _ => l0.length - (intOf i).toNat)
        case atStart => exact ⟨0, 0, 0, Nat.zero_le _, rfl, rfl, rfl, Below.refl _ _, ⟨own_none _ _ _⟩, by simp [sumI], by simp [pick]⟩
        case round =>
          obtain ⟨k, s, p, hk, rfl, rfl, rfl, hB, HO, HSP⟩ := hrel
          have hws := hB.size
          by_cases hlt : k < l0.length
          · have hltA : k < all.length := by have := HN.out; omega
            have hltM : k < ms.length := by have := HMN.out; omega
            obtain ⟨b, o, rfl, hb0, hcell⟩ := (ha5.below hB).int_at hltA
            obtain ⟨bi, oi, hbi, hb1, hcelli⟩ := (hI.below hB).get1 (i := k) (by simpa [bools] using hltM)
            obtain ⟨rfl, rfl⟩ : v4.heap.size = bi ∧ 0 = oi := by simpa using hbi
            rw [show (bools ms)[k]'(by simpa [bools] using hltM) = .bool ms[k] by simp [bools], Nat.zero_add] at hcelli
            have hv := HBD.out k hltA
            have hbs := sum_bd all 1000100 (fun i hi => HBD.out i hi) k (by omega)
            have hbp := pick_bd all ms 1000100 (fun i hi => HBD.out i hi) (by omega) k (by omega) (by omega)
            rw [← HSP.out.1] at hbs
            rw [← HSP.out.2] at hbp
            have e1 := sumI_snoc all k hltA
            have e2 := pick_snoc all ms k hltA hltM
            have e3 := rest_snoc ms k
            rw [show ms.getD k false = ms[k] by simp [hltM]] at e3
            rw [← HSP.out.1] at e1
            rw [← HSP.out.2] at e2
            generalize all[k] = x at *
            cases hmk : ms[k]
            · rw [hmk] at hcelli e2 e3
              simp only [Bool.false_eq_true, if_false, Int.add_zero] at e2 e3
              have E := Aside.mk (And.intro e1 (And.intro e2 e3))
              clear e1 e2 e3 hmk hbi HSP
              go_wp2_with (at_builtin; refine wpList_append_own_at _ rfl _ _ 41 rfl v6.heap.size 3 i0 (.int .i64 0) 1 8 Try.underlying41 hi hz0 hz1 hz2 rfl (by decide) _ _ _ rfl (HO.out.alloc _) ⟨wr.heap.size, 0, none⟩ 1 1 [.int .i64 (k : Int)] rfl rfl (cell_one_new _ _ _) (ints_oneCell .i64 [(k : Int)]) (by have := rest_len ms k; unfold maxLen; omega) (by have := rest_len ms k; omega) (by simp; omega) ?_; intro v' w1 hown' hgrow hnil hloc; have HO' := Aside.mk hown'; have HG' := Aside.mk hgrow; clear hown' hgrow hnil hloc)
              go_roundw
              case rel => exact ⟨k + 1, _, _, by omega, by go_num, rfl, rfl, Below.grown (Below.al hB _) HG'.out (by simp; omega) (fun k hk => own_lo HO.out k hk), ⟨by rw [E.out.2.2, List.length_append]; simpa [ints] using HO'.out⟩, E.out.1.symm, E.out.2.1.symm⟩
              case measure => simp [intOf]; omega
            · rw [hmk] at hcelli e2 e3
              simp only [if_true, List.append_nil] at e2 e3
              have E := Aside.mk (And.intro e1 (And.intro e2 e3))
              clear e1 e2 e3 hmk hbi HSP
              go_wp2
              go_roundw
              case rel => exact ⟨k + 1, _, _, by omega, by go_num, rfl, rfl, hB, ⟨by rw [E.out.2.2]; exact HO.out⟩, E.out.1.symm, E.out.2.1.symm⟩
              case measure => simp [intOf]; omega
          · obtain rfl : k = l0.length := by omega
            obtain ⟨A6, c6, rfl, ha6⟩ := Arr.of_own HO.out
            have hsp := HSP.out
            rw [← HN.out, List.take_length, show ms.take all.length = ms from List.take_of_length_le (by have := HN.out; have := HMN.out; omega)] at hsp
            obtain ⟨hs1, hs2⟩ := hsp
            have PP := PP.out
            rw [← hs1, ← hs2] at PP
            obtain ⟨P1, P2, P3, P4, P5⟩ := PP
            have HM2 : Aside (meanOk l0 l2 (1 + ti % 100) = true → lowM l0 l2 (1 + ti % 100) * s ≤ dotI all l2 ∧ dotI all l2 ≤ highM l0 l2 (1 + ti % 100) * s) := ⟨fun h => by have := HM.out h; rwa [← hs1] at this⟩
            have HB := Below.th HB hB
            have hr0 := hr0.below hB
            have hr2 := hr2.below hB
            have ha5 := ha5.below hB
            have B1 := B1.below hB
            have B2 := B2.below hB
            clear HO HSP hs1 hs2 HM hI hB hws hlt hk
            subst P1
            have BB := BB.out
            generalize lowC l0 (rest ms l0.length) (1 + ti % 100) = lo2 at *
            generalize highC l0 (rest ms l0.length) (1 + ti % 100) = hi2 at *
            go_wp2_with fail
            refine (KC.out A6 c6 _ hr0 ha6).mono ?_
            rintro e v7 ⟨rfl, zb⟩
            have HB := Below.th HB zb
            have hr0 := hr0.below zb
            have hr2 := hr2.below zb
            have ha5 := ha5.below zb
            have B1 := B1.below zb
            have B2 := B2.below zb
            clear zb KC ha6
            obtain ⟨z1, b1⟩ := B1
            obtain ⟨z2, b2⟩ := B2
            have b10 := b1 0 (by simp)
            have b11 := b1 1 (by simp)
            have b20 := b2 0 (by simp)
            have b21 := b2 1 (by simp)
            simp at b10 b11 b20 b21
            clear b1 b2
            have q1 : ((S : Int) != S) = false := by simp
            have q2 : ((lo + hi2 : Int) != S) = false := by simp; omega
            have q3 : ((hi1 + lo2 : Int) != S) = false := by simp; omega
            have q4 : ¬ p < lo := by omega
            have q5 : ¬ hi1 < p := by omega
            clear P2 P3 P4 P5
            rcases F2.out with ⟨rfl, mo, rfl, rfl⟩ | ⟨rfl, rfl, rfl⟩
            · obtain ⟨g1, g2⟩ := HM2.out mo
              obtain ⟨_, _, b1, b2, b3, b4, hV⟩ := mean_small mo
              have hln : l2.length = l0.length := by
                simp only [meanOk, Bool.and_eq_true, decide_eq_true_eq] at mo
                exact mo.1.1.2
              have HL := Lib.hid hln
              have HV := Aside.mk hV
              clear mo hln hV F2 HM2 q1
              generalize lowM l0 l2 (1 + ti % 100) = x2 at *
              generalize highM l0 l2 (1 + ti % 100) = y2 at *
              obtain ⟨u1, u2⟩ := bd_prod (a := x2) (b := S) b1 b2 S0 S1
              obtain ⟨u3, u4⟩ := bd_prod (a := y2) (b := S) b3 b4 S0 S1
              have GG := Aside.mk (And.intro g1 g2)
              clear g1 g2
              have q1 : ((S : Int) != S) = false := by simp
              go_wp2_with fail
              have ha5 := ((ha5.al (.cells #[.int .i64 lo2, .int .i64 S] 46)).al (.cells #[.int .i64 hi2, .int .i64 S] 46))
              have hr2 := ((hr2.al (.cells #[.int .i64 lo2, .int .i64 S] 46)).al (.cells #[.int .i64 hi2, .int .i64 S] 46))
              go_loop [31, 32, 33, 191] (fun u x y i => ∃ (k : Nat) (a : Int), k ≤ l0.length ∧ i = .int .i64 k ∧ u = .int .i64 a ∧ Hid (a = dotI (all.take k) (l2.take k))) (fun _ _ _ i => l0.length - (intOf i).toNat)
              case atStart => exact ⟨0, 0, Nat.zero_le _, rfl, rfl, (show (0 : Int) = _ by simp [dotI])⟩
              case round =>
                obtain ⟨k, a, hk, rfl, rfl, HA⟩ := hrel
                by_cases hlt : k < l0.length
                · have hltA : k < all.length := by have := HN.out; omega
                  have hltV : k < l2.length := by have := HL.out; omega
                  obtain ⟨b, o, rfl, hb0, hcell⟩ := ha5.int_at hltA
                  obtain ⟨bv, ov, rfl, hb1, hcellv⟩ := hr2.int_at hltV
                  have hx := HBD.out k hltA
                  have hy := HV.out k hltV
                  have hd := dot_bd2 all l2 (fun i hi => HBD.out i hi) HV.out k (by omega) (by omega)
                  rw [← HA.out] at hd
                  have e1 := dotI_snoc all l2 k hltA hltV
                  rw [← HA.out] at e1
                  have E := Lib.hid e1
                  obtain ⟨hm1, hm2⟩ := mul_bd2 hx.1 hx.2 hy.1 hy.2
                  clear e1 HA
                  generalize all[k] = x at *
                  generalize l2[k] = y at *
                  go_wp2
                  go_round
                  case rel => exact ⟨k + 1, _, by omega, by go_num, rfl, E.out.symm⟩
                  case measure => simp [intOf]; omega
                · obtain rfl : k = l0.length := by omega
                  have hA := HA.out
                  rw [← HN.out, List.take_length, show l2.take all.length = l2 from List.take_of_length_le (by have := HN.out; have := HL.out; omega)] at hA
                  obtain ⟨g1, g2⟩ := GG.out
                  rw [← hA] at g1 g2
                  clear hA HA GG hk hlt
                  go_wp2
                  go_ret
                  exact ⟨rfl, (by repeat (with_reducible first | exact Below.refl _ _ | assumption | refine Below.al ?_ _ | refine Below.dr ?_ | refine Below.drn ?_ _ | refine Below.sc ?_ (by simp <;> omega) _ | refine Below.th ?_ (by assumption)))⟩
            · go_wp2
              go_ret
              exact ⟨rfl, (by repeat (with_reducible first | exact Below.refl _ _ | assumption | refine Below.al ?_ _ | refine Below.dr ?_ | refine Below.drn ?_ _ | refine Below.sc ?_ (by simp <;> omega) _ | refine Below.th ?_ (by assumption)))⟩
end Go.Proofs.Ytknpkldmihhddaa
