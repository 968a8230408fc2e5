/- Contract of fixed.Scale at arguments whose product is small. -/
import Derived.Test.YtjbgdpbeabakiaaR1
namespace Go.Proofs.Ytjbgdpbeabakiaa
open Go.RowKit Go.Shelf
set_option linter.unusedVariables false
set_option linter.unusedSimpArgs false

def negS (a n d : Int) : Bool := (decide (a < 0)) != ((decide (n < 0)) != (decide (d < 0)))
def scaleV (a n d how : Int) : Int := sgn (negS a n d) (quo ((a.natAbs : Int) * (n.natAbs : Int)) (d.natAbs : Int) (negS a n d) how)
theorem product_small (x y : Int) (hx : 0 ≤ x) (hx2 : x < 18446744073709551616) (hy : 0 ≤ y) (hy2 : y < 18446744073709551616) (h : x * y < 18446744073709551616) (w : World) :
    Calls Try.prog 80 #[.int .u64 x, .int .u64 y] w fun e w' => e = .returned (.agg #[.int .u64 0, .int .u64 (x * y)]) ∧ Below w.heap.size w w' := by
  obtain ⟨a, rfl⟩ := Int.eq_ofNat_of_zero_le hx
  obtain ⟨b, rfl⟩ := Int.eq_ofNat_of_zero_le hy
  have e : ((a * b : Nat) : Int) < 18446744073709551616 := by rw [Int.natCast_mul]; exact h
  have hab : a * b < 18446744073709551616 := Int.ofNat_lt.1 e
  refine (product_c a b (by omega) (by omega) w).mono fun e w' ⟨he, hb⟩ => ⟨?_, hb⟩
  rw [he, Nat.div_eq_of_lt hab, Nat.mod_eq_of_lt hab, Int.natCast_mul]; rfl
set_option maxRecDepth 100000 in
set_option maxHeartbeats 1000000 in
theorem Scale1_0 (b0 b1 b2 b3 : Nat) (a n d : Int) (w : World) (c0 : w.cell? ⟨b0, 0, none⟩ = some (.int .i64 a)) (c1 : w.cell? ⟨b1, 0, none⟩ = some (.int .i64 0)) (c2 : w.cell? ⟨b2, 0, none⟩ = some (.int .i64 n)) (c3 : w.cell? ⟨b3, 0, none⟩ = some (.int .i64 d))
    (l0 : b0 < w.heap.size) (l1 : b1 < w.heap.size) (l2 : b2 < w.heap.size) (l3 : b3 < w.heap.size)
    (ha : fixOk a = true) (hn : inR n (-2147483648) 2147483648 = true) (hd : inR d (-2147483648) 2147483648 = true) (hd0 : ¬ d = 0)
    (hs : (a.natAbs : Int) * (n.natAbs : Int) < 9223372036854775807) (hq : ∀ neg, quo ((a.natAbs : Int) * (n.natAbs : Int)) (d.natAbs : Int) neg 0 ≤ 70368744177664) :
    Calls Try.prog 75 #[.pointer (some ⟨b0, 0, none⟩), .pointer (some ⟨b1, 0, none⟩), .pointer (some ⟨b2, 0, none⟩), .pointer (some ⟨b3, 0, none⟩)] w fun e w' => e = .returned (.int .i64 (scaleV a n d 0)) ∧ Below w.heap.size w w' := by
  obtain ⟨n1, n2⟩ := inR_iff.1 hn
  obtain ⟨d1, d2⟩ := inR_iff.1 hd
  obtain ⟨a1, a2⟩ := inR_iff.1 ha
  have e0 : (d != 0) = true := by simpa using hd0
  have hp0 : 0 ≤ (a.natAbs : Int) * (n.natAbs : Int) := Int.mul_nonneg (by omega) (by omega)
  go_enter Try.func75, Try.ntmps75
  go_wp2_with (first | (go_at_call 76; refine (Calls.below_q (right_one a _ _ _ (by simp [go_sem, c0]) ha)).mono ?_; rintro e w' ⟨rfl, zb⟩; obtain ⟨zc, zf⟩ := bcell zb; have zz := zb.size; (try simp at zz); (try have zq := fun b (h : b < w.heap.size) => (by omega : b < w'.heap.size)); (try have zq0 : w.heap.size < w'.heap.size := by omega); (try have zq1 : w.heap.size + 1 < w'.heap.size := by omega); (try have zq2 : w.heap.size + 2 < w'.heap.size := by omega); (try have zr0 : wr.heap.size < w'.heap.size := by omega); (try have zr1 : wr.heap.size + 1 < w'.heap.size := by omega)) | (go_at_call 77; refine (ways_ok _ (by omega) (by omega) _).mono ?_; rintro e w' ⟨rfl, rfl⟩) | (go_at_call 78; refine (need_ok _ _).mono ?_; rintro e w' ⟨rfl, rfl⟩))
  refine wp_region_more (by kernel_rfl) (by kernel_rfl) ?_
  iterate 18
    refine more_ex rfl (fun K hK => ?_)
    apply Exists.intro
    refine ⟨fun W hW => ?_, ?_⟩
    · obtain ⟨zc, zf⟩ := bcell hW
      go_simp
      first
        | exact rfl
        | (go_at_call 81; refine more_call_q hW (size_F_c _ ?_ ?_ _) <;> omega)
        | (go_at_call 82; refine more_call_q hW (size_I_c _ ?_ ?_ _) <;> omega)
        | (go_at_call 79; exact more_call hW (quotient_0 _ _ hp0 hs (by omega) (by omega) _ (hq _) _))
        | (go_at_call 80; refine more_call hW (product_small _ _ ?_ ?_ ?_ ?_ ?_ _) <;> omega)
    go_simp
    refine hK _ ?_
    clear hK K
  refine wpQuiet_nil ?_
  intro w2 hw2
  go_wp2
  go_ret
  exact ⟨ret_int (by unfold scaleV negS; rfl), (by repeat (with_reducible first | exact Below.refl _ _ | assumption | refine Below.al ?_ _ | refine Below.dr ?_ | refine Below.drn ?_ _ | refine Below.sc ?_ (by simp <;> omega) _ | refine Below.th ?_ (by assumption)))⟩
set_option maxRecDepth 100000 in
set_option maxHeartbeats 1000000 in
theorem Scale1_1 (b0 b1 b2 b3 : Nat) (a n d : Int) (w : World) (c0 : w.cell? ⟨b0, 0, none⟩ = some (.int .i64 a)) (c1 : w.cell? ⟨b1, 0, none⟩ = some (.int .i64 1)) (c2 : w.cell? ⟨b2, 0, none⟩ = some (.int .i64 n)) (c3 : w.cell? ⟨b3, 0, none⟩ = some (.int .i64 d))
    (l0 : b0 < w.heap.size) (l1 : b1 < w.heap.size) (l2 : b2 < w.heap.size) (l3 : b3 < w.heap.size)
    (ha : fixOk a = true) (hn : inR n (-2147483648) 2147483648 = true) (hd : inR d (-2147483648) 2147483648 = true) (hd0 : ¬ d = 0)
    (hs : (a.natAbs : Int) * (n.natAbs : Int) < 9223372036854775807) (hq : ∀ neg, quo ((a.natAbs : Int) * (n.natAbs : Int)) (d.natAbs : Int) neg 1 ≤ 70368744177664) :
    Calls Try.prog 75 #[.pointer (some ⟨b0, 0, none⟩), .pointer (some ⟨b1, 0, none⟩), .pointer (some ⟨b2, 0, none⟩), .pointer (some ⟨b3, 0, none⟩)] w fun e w' => e = .returned (.int .i64 (scaleV a n d 1)) ∧ Below w.heap.size w w' := by
  obtain ⟨n1, n2⟩ := inR_iff.1 hn
  obtain ⟨d1, d2⟩ := inR_iff.1 hd
  obtain ⟨a1, a2⟩ := inR_iff.1 ha
  have e0 : (d != 0) = true := by simpa using hd0
  have hp0 : 0 ≤ (a.natAbs : Int) * (n.natAbs : Int) := Int.mul_nonneg (by omega) (by omega)
  go_enter Try.func75, Try.ntmps75
  go_wp2_with (first | (go_at_call 76; refine (Calls.below_q (right_one a _ _ _ (by simp [go_sem, c0]) ha)).mono ?_; rintro e w' ⟨rfl, zb⟩; obtain ⟨zc, zf⟩ := bcell zb; have zz := zb.size; (try simp at zz); (try have zq := fun b (h : b < w.heap.size) => (by omega : b < w'.heap.size)); (try have zq0 : w.heap.size < w'.heap.size := by omega); (try have zq1 : w.heap.size + 1 < w'.heap.size := by omega); (try have zq2 : w.heap.size + 2 < w'.heap.size := by omega); (try have zr0 : wr.heap.size < w'.heap.size := by omega); (try have zr1 : wr.heap.size + 1 < w'.heap.size := by omega)) | (go_at_call 77; refine (ways_ok _ (by omega) (by omega) _).mono ?_; rintro e w' ⟨rfl, rfl⟩) | (go_at_call 78; refine (need_ok _ _).mono ?_; rintro e w' ⟨rfl, rfl⟩))
  refine wp_region_more (by kernel_rfl) (by kernel_rfl) ?_
  iterate 18
    refine more_ex rfl (fun K hK => ?_)
    apply Exists.intro
    refine ⟨fun W hW => ?_, ?_⟩
    · obtain ⟨zc, zf⟩ := bcell hW
      go_simp
      first
        | exact rfl
        | (go_at_call 81; refine more_call_q hW (size_F_c _ ?_ ?_ _) <;> omega)
        | (go_at_call 82; refine more_call_q hW (size_I_c _ ?_ ?_ _) <;> omega)
        | (go_at_call 79; exact more_call hW (quotient_1 _ _ hp0 hs (by omega) (by omega) _ (hq _) _))
        | (go_at_call 80; refine more_call hW (product_small _ _ ?_ ?_ ?_ ?_ ?_ _) <;> omega)
    go_simp
    refine hK _ ?_
    clear hK K
  refine wpQuiet_nil ?_
  intro w2 hw2
  go_wp2
  go_ret
  exact ⟨ret_int (by unfold scaleV negS; rfl), (by repeat (with_reducible first | exact Below.refl _ _ | assumption | refine Below.al ?_ _ | refine Below.dr ?_ | refine Below.drn ?_ _ | refine Below.sc ?_ (by simp <;> omega) _ | refine Below.th ?_ (by assumption)))⟩
set_option maxRecDepth 100000 in
set_option maxHeartbeats 1000000 in
theorem Scale1_2 (b0 b1 b2 b3 : Nat) (a n d : Int) (w : World) (c0 : w.cell? ⟨b0, 0, none⟩ = some (.int .i64 a)) (c1 : w.cell? ⟨b1, 0, none⟩ = some (.int .i64 2)) (c2 : w.cell? ⟨b2, 0, none⟩ = some (.int .i64 n)) (c3 : w.cell? ⟨b3, 0, none⟩ = some (.int .i64 d))
    (l0 : b0 < w.heap.size) (l1 : b1 < w.heap.size) (l2 : b2 < w.heap.size) (l3 : b3 < w.heap.size)
    (ha : fixOk a = true) (hn : inR n (-2147483648) 2147483648 = true) (hd : inR d (-2147483648) 2147483648 = true) (hd0 : ¬ d = 0)
    (hs : (a.natAbs : Int) * (n.natAbs : Int) < 9223372036854775807) (hq : ∀ neg, quo ((a.natAbs : Int) * (n.natAbs : Int)) (d.natAbs : Int) neg 2 ≤ 70368744177664) :
    Calls Try.prog 75 #[.pointer (some ⟨b0, 0, none⟩), .pointer (some ⟨b1, 0, none⟩), .pointer (some ⟨b2, 0, none⟩), .pointer (some ⟨b3, 0, none⟩)] w fun e w' => e = .returned (.int .i64 (scaleV a n d 2)) ∧ Below w.heap.size w w' := by
  obtain ⟨n1, n2⟩ := inR_iff.1 hn
  obtain ⟨d1, d2⟩ := inR_iff.1 hd
  obtain ⟨a1, a2⟩ := inR_iff.1 ha
  have e0 : (d != 0) = true := by simpa using hd0
  have hp0 : 0 ≤ (a.natAbs : Int) * (n.natAbs : Int) := Int.mul_nonneg (by omega) (by omega)
  go_enter Try.func75, Try.ntmps75
  go_wp2_with (first | (go_at_call 76; refine (Calls.below_q (right_one a _ _ _ (by simp [go_sem, c0]) ha)).mono ?_; rintro e w' ⟨rfl, zb⟩; obtain ⟨zc, zf⟩ := bcell zb; have zz := zb.size; (try simp at zz); (try have zq := fun b (h : b < w.heap.size) => (by omega : b < w'.heap.size)); (try have zq0 : w.heap.size < w'.heap.size := by omega); (try have zq1 : w.heap.size + 1 < w'.heap.size := by omega); (try have zq2 : w.heap.size + 2 < w'.heap.size := by omega); (try have zr0 : wr.heap.size < w'.heap.size := by omega); (try have zr1 : wr.heap.size + 1 < w'.heap.size := by omega)) | (go_at_call 77; refine (ways_ok _ (by omega) (by omega) _).mono ?_; rintro e w' ⟨rfl, rfl⟩) | (go_at_call 78; refine (need_ok _ _).mono ?_; rintro e w' ⟨rfl, rfl⟩))
  refine wp_region_more (by kernel_rfl) (by kernel_rfl) ?_
  iterate 18
    refine more_ex rfl (fun K hK => ?_)
    apply Exists.intro
    refine ⟨fun W hW => ?_, ?_⟩
    · obtain ⟨zc, zf⟩ := bcell hW
      go_simp
      first
        | exact rfl
        | (go_at_call 81; refine more_call_q hW (size_F_c _ ?_ ?_ _) <;> omega)
        | (go_at_call 82; refine more_call_q hW (size_I_c _ ?_ ?_ _) <;> omega)
        | (go_at_call 79; exact more_call hW (quotient_2 _ _ hp0 hs (by omega) (by omega) _ (hq _) _))
        | (go_at_call 80; refine more_call hW (product_small _ _ ?_ ?_ ?_ ?_ ?_ _) <;> omega)
    go_simp
    refine hK _ ?_
    clear hK K
  refine wpQuiet_nil ?_
  intro w2 hw2
  go_wp2
  go_ret
  exact ⟨ret_int (by unfold scaleV negS; rfl), (by repeat (with_reducible first | exact Below.refl _ _ | assumption | refine Below.al ?_ _ | refine Below.dr ?_ | refine Below.drn ?_ _ | refine Below.sc ?_ (by simp <;> omega) _ | refine Below.th ?_ (by assumption)))⟩
set_option maxRecDepth 100000 in
set_option maxHeartbeats 1000000 in
theorem Scale1_3 (b0 b1 b2 b3 : Nat) (a n d : Int) (w : World) (c0 : w.cell? ⟨b0, 0, none⟩ = some (.int .i64 a)) (c1 : w.cell? ⟨b1, 0, none⟩ = some (.int .i64 3)) (c2 : w.cell? ⟨b2, 0, none⟩ = some (.int .i64 n)) (c3 : w.cell? ⟨b3, 0, none⟩ = some (.int .i64 d))
    (l0 : b0 < w.heap.size) (l1 : b1 < w.heap.size) (l2 : b2 < w.heap.size) (l3 : b3 < w.heap.size)
    (ha : fixOk a = true) (hn : inR n (-2147483648) 2147483648 = true) (hd : inR d (-2147483648) 2147483648 = true) (hd0 : ¬ d = 0)
    (hs : (a.natAbs : Int) * (n.natAbs : Int) < 9223372036854775807) (hq : ∀ neg, quo ((a.natAbs : Int) * (n.natAbs : Int)) (d.natAbs : Int) neg 3 ≤ 70368744177664) :
    Calls Try.prog 75 #[.pointer (some ⟨b0, 0, none⟩), .pointer (some ⟨b1, 0, none⟩), .pointer (some ⟨b2, 0, none⟩), .pointer (some ⟨b3, 0, none⟩)] w fun e w' => e = .returned (.int .i64 (scaleV a n d 3)) ∧ Below w.heap.size w w' := by
  obtain ⟨n1, n2⟩ := inR_iff.1 hn
  obtain ⟨d1, d2⟩ := inR_iff.1 hd
  obtain ⟨a1, a2⟩ := inR_iff.1 ha
  have e0 : (d != 0) = true := by simpa using hd0
  have hp0 : 0 ≤ (a.natAbs : Int) * (n.natAbs : Int) := Int.mul_nonneg (by omega) (by omega)
  go_enter Try.func75, Try.ntmps75
  go_wp2_with (first | (go_at_call 76; refine (Calls.below_q (right_one a _ _ _ (by simp [go_sem, c0]) ha)).mono ?_; rintro e w' ⟨rfl, zb⟩; obtain ⟨zc, zf⟩ := bcell zb; have zz := zb.size; (try simp at zz); (try have zq := fun b (h : b < w.heap.size) => (by omega : b < w'.heap.size)); (try have zq0 : w.heap.size < w'.heap.size := by omega); (try have zq1 : w.heap.size + 1 < w'.heap.size := by omega); (try have zq2 : w.heap.size + 2 < w'.heap.size := by omega); (try have zr0 : wr.heap.size < w'.heap.size := by omega); (try have zr1 : wr.heap.size + 1 < w'.heap.size := by omega)) | (go_at_call 77; refine (ways_ok _ (by omega) (by omega) _).mono ?_; rintro e w' ⟨rfl, rfl⟩) | (go_at_call 78; refine (need_ok _ _).mono ?_; rintro e w' ⟨rfl, rfl⟩))
  refine wp_region_more (by kernel_rfl) (by kernel_rfl) ?_
  iterate 18
    refine more_ex rfl (fun K hK => ?_)
    apply Exists.intro
    refine ⟨fun W hW => ?_, ?_⟩
    · obtain ⟨zc, zf⟩ := bcell hW
      go_simp
      first
        | exact rfl
        | (go_at_call 81; refine more_call_q hW (size_F_c _ ?_ ?_ _) <;> omega)
        | (go_at_call 82; refine more_call_q hW (size_I_c _ ?_ ?_ _) <;> omega)
        | (go_at_call 79; exact more_call hW (quotient_3 _ _ hp0 hs (by omega) (by omega) _ (hq _) _))
        | (go_at_call 80; refine more_call hW (product_small _ _ ?_ ?_ ?_ ?_ ?_ _) <;> omega)
    go_simp
    refine hK _ ?_
    clear hK K
  refine wpQuiet_nil ?_
  intro w2 hw2
  go_wp2
  go_ret
  exact ⟨ret_int (by unfold scaleV negS; rfl), (by repeat (with_reducible first | exact Below.refl _ _ | assumption | refine Below.al ?_ _ | refine Below.dr ?_ | refine Below.drn ?_ _ | refine Below.sc ?_ (by simp <;> omega) _ | refine Below.th ?_ (by assumption)))⟩
theorem Scale1_c (b0 b1 b2 b3 : Nat) (a n d how : Int) (w : World) (c0 : w.cell? ⟨b0, 0, none⟩ = some (.int .i64 a)) (c1 : w.cell? ⟨b1, 0, none⟩ = some (.int .i64 how)) (c2 : w.cell? ⟨b2, 0, none⟩ = some (.int .i64 n)) (c3 : w.cell? ⟨b3, 0, none⟩ = some (.int .i64 d))
    (l0 : b0 < w.heap.size) (l1 : b1 < w.heap.size) (l2 : b2 < w.heap.size) (l3 : b3 < w.heap.size)
    (ha : fixOk a = true) (hh0 : 0 ≤ how) (hh3 : how ≤ 3) (hn : inR n (-2147483648) 2147483648 = true) (hd : inR d (-2147483648) 2147483648 = true) (hd0 : ¬ d = 0)
    (hs : (a.natAbs : Int) * (n.natAbs : Int) < 9223372036854775807) (hq : ∀ neg, quo ((a.natAbs : Int) * (n.natAbs : Int)) (d.natAbs : Int) neg how ≤ 70368744177664) :
    Calls Try.prog 75 #[.pointer (some ⟨b0, 0, none⟩), .pointer (some ⟨b1, 0, none⟩), .pointer (some ⟨b2, 0, none⟩), .pointer (some ⟨b3, 0, none⟩)] w fun e w' => e = .returned (.int .i64 (scaleV a n d how)) ∧ Below w.heap.size w w' := by
  obtain rfl | rfl | rfl | rfl : how = 0 ∨ how = 1 ∨ how = 2 ∨ how = 3 := by omega
  · exact Scale1_0 _ _ _ _ _ _ _ _ c0 c1 c2 c3 l0 l1 l2 l3 ha hn hd hd0 hs hq
  · exact Scale1_1 _ _ _ _ _ _ _ _ c0 c1 c2 c3 l0 l1 l2 l3 ha hn hd hd0 hs hq
  · exact Scale1_2 _ _ _ _ _ _ _ _ c0 c1 c2 c3 l0 l1 l2 l3 ha hn hd hd0 hs hq
  · exact Scale1_3 _ _ _ _ _ _ _ _ c0 c1 c2 c3 l0 l1 l2 l3 ha hn hd hd0 hs hq
end Go.Proofs.Ytjbgdpbeabakiaa
