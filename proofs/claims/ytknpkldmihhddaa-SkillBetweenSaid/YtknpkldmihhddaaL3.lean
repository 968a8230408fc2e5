/- The law SkillChances: its function answers true. -/
import Derived.Test.YtknpkldmihhddaaL1
import Derived.Test.YtknpkldmihhddaaW6
namespace Go.Proofs.Ytknpkldmihhddaa
open Go.RowKit
set_option linter.unusedVariables false
set_option linter.unusedSimpArgs false

theorem chance_shape (l s : List Int) (d : Int) : ∃ x0 x1 y0 y1 e, chanceV l s d = .tuple #[.agg #[.int .i64 x0, .int .i64 x1], .agg #[.int .i64 y0, .int .i64 y1], .int .i64 e] ∧ refChanceV l s d = .tuple #[.agg #[.int .i64 x0, .int .i64 x1, .int .i64 y0, .int .i64 y1], .int .i64 e] := by
  unfold chanceV refChanceV; split <;> exact ⟨_, _, _, _, _, rfl, rfl⟩
theorem mean_shape (l s : List Int) (d : Int) : ∃ x y e, meanV l s d = .tuple #[.int .i64 x, .int .i64 y, .int .i64 e] ∧ refMeanV l s d = .tuple #[.agg #[.int .i64 x, .int .i64 y], .int .i64 e] := by
  unfold meanV refMeanV; split <;> exact ⟨_, _, _, rfl, rfl⟩
theorem better_shape (a b : List Int) : ∃ x e, betterV a b = .tuple #[.bool x, .int .i64 e] := by
  unfold betterV; split <;> exact ⟨_, _, rfl⟩
/-- a block of its own: what its cells hold -/
structure Box (W : World) (b : Nat) (cs : List Value) : Prop where
  lt : b < W.heap.size
  at_ : ∀ i, i < cs.length → W.cell? ⟨b, i, none⟩ = cs[i]?
theorem Box.below {W W' : World} {b : Nat} {cs : List Value} (h : Box W b cs) (hb : Below W.heap.size W W') : Box W' b cs :=
  ⟨Nat.lt_of_lt_of_le h.lt hb.size, fun i hi => (hb.cell (p := ⟨b, i, none⟩) h.lt).trans (h.at_ i hi)⟩
theorem Box.al {W : World} {b : Nat} {cs : List Value} (h : Box W b cs) (o : Obj) : Box (W.alloc o) b cs := h.below (Below.al (Below.refl _ _) _)
theorem Box.fresh (W : World) (cs : Array Value) (T : TypeId) (fz : Nat × Nat) : Box (W.alloc (.cells cs T fz)) W.heap.size cs.toList := by
  refine ⟨by simp, fun i hi => ?_⟩
  have e : (W.alloc (.cells cs T fz)).heap[W.heap.size]? = some (.cells cs T fz) := by show (W.heap.push _)[W.heap.size]? = _; simp
  simp only [World.cell?, e]
  simp
theorem Arr.lens (w : World) (cs : List (Option Addr × Nat × Nat)) (T : TypeId) : Arr (w.alloc (.cells (cs.map sl3).toArray T)) (some ⟨w.heap.size, 0, none⟩) (cs.map sl3) := by
  simpa using Arr.fresh w (cs.map sl3).toArray T (0, 0)
set_option maxHeartbeats 2000000 in
set_option maxRecDepth 100000 in
theorem SkillChances_long (A0 A1 A2 A3 : Option Addr) (N0 N1 N2 N3 c0 c1 c2 c3 : Nat) (d : Int) (w : World) (h : 60 < N0 ∨ 60 < N1 ∨ 60 < N2 ∨ 60 < N3) :
    Calls Try.prog 6 #[.slice A0 N0 c0, .slice A1 N1 c1, .slice A2 N2 c2, .slice A3 N3 c3, .int .i64 d] w fun e w' => e = .returned (.bool true) ∧ Below w.heap.size w w' := by
  have KO := Aside.mk (odd_c _ 3 [(A0, N0, c0), (A1, N1, c1), (A2, N2, c2)] _ (Arr.lens w [(A0, N0, c0), (A1, N1, c1), (A2, N2, c2)] 41) (by simp))
  cases ho : ([(A0, N0, c0), (A1, N1, c1), (A2, N2, c2)] : List (Option Addr × Nat × Nat)).any long
  · have h3 : 60 < N3 := by simp [long] at ho; omega
    rw [ho] at KO
    simp only [List.map_cons, List.map_nil, sl3, List.length_cons, List.length_nil] at KO
    clear ho h
    go_enter Try.func6, Try.ntmps6
    go_wp2_with fail
    refine KO.out.mono ?_
    rintro e w' ⟨rfl, rfl⟩
    go_wp2_with fail
    refine (alive_c _).mono ?_
    rintro e w' ⟨rfl, zb⟩
    go_wp2
    go_ret
    exact ⟨rfl, (by repeat (with_reducible first | exact Below.refl _ _ | assumption | refine Below.al ?_ _ | refine Below.dr ?_ | refine Below.drn ?_ _ | refine Below.sc ?_ (by simp <;> omega) _ | refine Below.th ?_ (by assumption)))⟩
  · rw [ho] at KO
    simp only [List.map_cons, List.map_nil, sl3, List.length_cons, List.length_nil] at KO
    clear ho h
    go_enter Try.func6, Try.ntmps6
    go_wp2_with fail
    refine KO.out.mono ?_
    rintro e w' ⟨rfl, rfl⟩
    go_wp2_with fail
    refine (alive_c _).mono ?_
    rintro e w' ⟨rfl, zb⟩
    go_wp2
    go_ret
    exact ⟨rfl, (by repeat (with_reducible first | exact Below.refl _ _ | assumption | refine Below.al ?_ _ | refine Below.dr ?_ | refine Below.drn ?_ _ | refine Below.sc ?_ (by simp <;> omega) _ | refine Below.th ?_ (by assumption)))⟩
set_option maxHeartbeats 4000000 in
set_option maxRecDepth 100000 in
theorem SkillChances_c (A0 A1 A2 A3 : Option Addr) (c0 c1 c2 c3 : Nat) (l0 l1 l2 l3 : List Int) (d : Int) (w : World) (hr0 : Arr w A0 (ints l0)) (hr1 : Arr w A1 (ints l1)) (hr2 : Arr w A2 (ints l2)) (hr3 : Arr w A3 (ints l3))
    (n0 : l0.length ≤ 60) (n1 : l1.length ≤ 60) (n2 : l2.length ≤ 60) (n3 : l3.length ≤ 60) (k0 : l0.length ≤ c0) (k2 : l2.length ≤ c2) :
    Calls Try.prog 6 #[.slice A0 l0.length c0, .slice A1 l1.length c1, .slice A2 l2.length c2, .slice A3 l3.length c3, .int .i64 d] w fun e w' => e = .returned (.bool true) ∧ Below w.heap.size w w' := by
  have KO := Aside.mk (odd_c _ 3 [(A0, l0.length, c0), (A1, l1.length, c1), (A2, l2.length, c2)] _ (Arr.lens w [(A0, l0.length, c0), (A1, l1.length, c1), (A2, l2.length, c2)] 41) (by simp))
  rw [show ([(A0, l0.length, c0), (A1, l1.length, c1), (A2, l2.length, c2)] : List (Option Addr × Nat × Nat)).any long = false by simp [long]; omega] at KO
  simp only [List.map_cons, List.map_nil, sl3, List.length_cons, List.length_nil] at KO
  have K1 := Aside.mk (fun w hr0 hr1 => Chance_c A0 A1 c0 c1 l0 l1 d w hr0 hr1 (by omega) (by omega))
  have K2 := Aside.mk (fun w hr0 hr1 => RefChance_c A0 A1 c0 c1 l0 l1 d w hr0 hr1 (by omega) (by omega))
  have K3 := Aside.mk (fun w hr0 hr3 => Mean_c A0 A3 c0 c3 l0 l3 d w hr0 hr3 (by omega) (by omega))
  have K4 := Aside.mk (fun w hr0 hr3 => RefMean_c A0 A3 c0 c3 l0 l3 d w hr0 hr3 (by omega) (by omega))
  have K5 := Aside.mk (fun w hr0 hr1 => Given_c A0 A1 c0 c1 l0 l1 w hr0 hr1 (by omega) (by omega))
  have K6 := Aside.mk (fun w hr0 hr1 => RefGiven_c A0 A1 c0 c1 l0 l1 w hr0 hr1 (by omega) (by omega))
  have K7 := Aside.mk (fun w hr0 hr2 => Better_c A0 A2 c0 c2 l0 l2 w hr0 hr2 (by omega) (by omega))
  have K8 := Aside.mk (fun w hr0 hr2 => RefBetter_c A0 A2 c0 c2 l0 l2 w hr0 hr2 (by omega) (by omega) k0 k2)
  obtain ⟨x0, x1, y0, y1, e1, hv1, hv2⟩ := chance_shape l0 l1 d
  rw [hv1] at K1; rw [hv2] at K2
  obtain ⟨x, y, e2, hv3, hv4⟩ := mean_shape l0 l3 d
  rw [hv3] at K3; rw [hv4] at K4
  obtain ⟨bt, e3, hv5⟩ := better_shape l0 l2
  rw [hv5] at K7 K8
  have hgl : (givenL l0 l1).length < 4294967296 := by unfold givenL; split <;> simp [givenI_len]; omega
  generalize eArg (givenOk l0 l1) = e4 at *
  clear hv1 hv2 hv3 hv4 hv5
  go_enter Try.func6, Try.ntmps6
  go_wp2_with fail
  refine KO.out.mono ?_
  rintro e w' ⟨rfl, rfl⟩
  clear KO
  go_wp2_with fail
  refine (K1.out _ (Arr.al hr0 _) (Arr.al hr1 _)).mono ?_
  rintro e v1 ⟨rfl, zb⟩
  have HB := Below.th (Below.al (Below.refl _ _) _) zb
  have hr0 := (Arr.al hr0 _).below zb
  have hr1 := (Arr.al hr1 _).below zb
  have hr2 := (Arr.al hr2 _).below zb
  have hr3 := (Arr.al hr3 _).below zb
  clear zb K1
  go_wp2_with fail
  have B1 : Box ((v1.alloc (.cells #[.int .i64 x0, .int .i64 x1] 46)).alloc (.cells #[.int .i64 y0, .int .i64 y1] 46)) v1.heap.size [.int .i64 x0, .int .i64 x1] := (Box.fresh v1 #[.int .i64 x0, .int .i64 x1] 46 (0, 0)).al _
  have B2 : Box ((v1.alloc (.cells #[.int .i64 x0, .int .i64 x1] 46)).alloc (.cells #[.int .i64 y0, .int .i64 y1] 46)) (v1.heap.size + 1) [.int .i64 y0, .int .i64 y1] := by simpa using Box.fresh (v1.alloc (.cells #[.int .i64 x0, .int .i64 x1] 46)) #[.int .i64 y0, .int .i64 y1] 46 (0, 0)
  refine (K2.out _ (Arr.al (Arr.al hr0 _) _) (Arr.al (Arr.al hr1 _) _)).mono ?_
  rintro e v2 ⟨rfl, zb⟩
  have HB := Below.th (Below.al (Below.al HB _) _) zb
  have hr0 := (Arr.al (Arr.al hr0 _) _).below zb
  have hr1 := (Arr.al (Arr.al hr1 _) _).below zb
  have hr2 := (Arr.al (Arr.al hr2 _) _).below zb
  have hr3 := (Arr.al (Arr.al hr3 _) _).below zb
  have B1 := B1.below zb
  have B2 := B2.below zb
  clear zb K2
  go_wp2_with fail
  have B3 := Box.fresh v2 #[.int .i64 x0, .int .i64 x1, .int .i64 y0, .int .i64 y1] 60 (0, 0)
  refine (K3.out _ (Arr.al hr0 _) (Arr.al hr3 _)).mono ?_
  rintro e v3 ⟨rfl, zb⟩
  have HB := Below.th (Below.al HB _) zb
  have hr0 := (Arr.al hr0 _).below zb
  have hr1 := (Arr.al hr1 _).below zb
  have hr2 := (Arr.al hr2 _).below zb
  have hr3 := (Arr.al hr3 _).below zb
  have B1 := (Box.al B1 _).below zb
  have B2 := (Box.al B2 _).below zb
  have B3 := B3.below zb
  clear zb K3
  go_wp2_with fail
  refine (K4.out _ hr0 hr3).mono ?_
  rintro e v4 ⟨rfl, zb⟩
  have HB := Below.th HB zb
  have hr0 := hr0.below zb
  have hr1 := hr1.below zb
  have hr2 := hr2.below zb
  have hr3 := hr3.below zb
  have B1 := B1.below zb
  have B2 := B2.below zb
  have B3 := B3.below zb
  clear zb K4
  go_wp2_with fail
  have B4 := Box.fresh v4 #[.int .i64 x, .int .i64 y] 64 (0, 0)
  refine (K5.out _ (Arr.al hr0 _) (Arr.al hr1 _)).mono ?_
  rintro e v5 ⟨G1, g1, rfl, hg1, zb⟩
  have HB := Below.th (Below.al HB _) zb
  have hr0 := (Arr.al hr0 _).below zb
  have hr1 := (Arr.al hr1 _).below zb
  have hr2 := (Arr.al hr2 _).below zb
  have hr3 := (Arr.al hr3 _).below zb
  have B1 := (Box.al B1 _).below zb
  have B2 := (Box.al B2 _).below zb
  have B3 := (Box.al B3 _).below zb
  have B4 := B4.below zb
  clear zb K5
  go_wp2_with fail
  refine (K6.out _ hr0 hr1).mono ?_
  rintro e v6 ⟨G2, g2, rfl, hg2, zb⟩
  have HB := Below.th HB zb
  have hr0 := hr0.below zb
  have hr1 := hr1.below zb
  have hr2 := hr2.below zb
  have hr3 := hr3.below zb
  have hg1 := hg1.below zb
  have B1 := B1.below zb
  have B2 := B2.below zb
  have B3 := B3.below zb
  have B4 := B4.below zb
  clear zb K6
  go_wp2_with fail
  refine (K7.out _ hr0 hr2).mono ?_
  rintro e v7 ⟨rfl, zb⟩
  have HB := Below.th HB zb
  have hr0 := hr0.below zb
  have hr1 := hr1.below zb
  have hr2 := hr2.below zb
  have hr3 := hr3.below zb
  have hg1 := hg1.below zb
  have hg2 := hg2.below zb
  have B1 := B1.below zb
  have B2 := B2.below zb
  have B3 := B3.below zb
  have B4 := B4.below zb
  clear zb K7
  go_wp2_with fail
  refine (K8.out _ hr0 hr2).mono ?_
  rintro e v8 ⟨rfl, zb⟩
  have HB := Below.th HB zb
  have hr0 := hr0.below zb
  have hr1 := hr1.below zb
  have hr2 := hr2.below zb
  have hr3 := hr3.below zb
  have hg1 := hg1.below zb
  have hg2 := hg2.below zb
  have B1 := B1.below zb
  have B2 := B2.below zb
  have B3 := B3.below zb
  have B4 := B4.below zb
  clear zb K8
  have hI := Aside.mk (fun w hg1 hg2 => Ints_c G1 G2 g1 g2 (givenL l0 l1) w hg1 hg2 hgl)
  obtain ⟨q1, b1⟩ := B1
  obtain ⟨q2, b2⟩ := B2
  obtain ⟨q3, b3⟩ := B3
  obtain ⟨q4, b4⟩ := B4
  have b10 := b1 0 (by simp)
  have b11 := b1 1 (by simp)
  have b20 := b2 0 (by simp)
  have b21 := b2 1 (by simp)
  have b30 := b3 0 (by simp)
  have b31 := b3 1 (by simp)
  have b32 := b3 2 (by simp)
  have b33 := b3 3 (by simp)
  have b40 := b4 0 (by simp)
  have b41 := b4 1 (by simp)
  simp at b10 b11 b20 b21 b30 b31 b32 b33 b40 b41
  clear b1 b2 b3 b4
  go_wp2_with fail
  refine (hI.out _ hg1 hg2).mono ?_
  rintro e v9 ⟨rfl, zb⟩
  have HB := Below.th HB zb
  clear zb b10 b11 b20 b21 b30 b31 b32 b33 b40 b41
  go_wp2_with fail
  refine (alive_c _).mono ?_
  rintro e v10 ⟨rfl, zb⟩
  have HB := Below.th HB zb
  go_wp2
  go_ret
  exact ⟨by simp, HB⟩
end Go.Proofs.Ytknpkldmihhddaa
