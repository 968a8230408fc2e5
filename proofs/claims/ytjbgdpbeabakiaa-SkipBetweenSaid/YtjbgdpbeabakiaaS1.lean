/- Contracts of skill: share, Min, Max, sum. -/
import Derived.Test.YtjbgdpbeabakiaaR2
import Derived.Test.YtjbgdpbeabakiaaB4
namespace Go.Proofs.Ytjbgdpbeabakiaa
open Go.RowKit Go.Shelf
set_option linter.unusedVariables false
set_option linter.unusedSimpArgs false

theorem Scale_c (a n d how : Int) (w : World) (ha : fixOk a = true) (hh0 : 0 ≤ how) (hh3 : how ≤ 3) (hn : inR n (-2147483648) 2147483648 = true) (hd : inR d (-2147483648) 2147483648 = true) (hd0 : ¬ d = 0)
    (hs : (a.natAbs : Int) * (n.natAbs : Int) < 9223372036854775807) (hq : ∀ neg, quo ((a.natAbs : Int) * (n.natAbs : Int)) (d.natAbs : Int) neg how ≤ 70368744177664) :
    Calls Try.prog 73 #[.int .i64 a, .int .i64 n, .int .i64 d, .int .i64 how] w fun e w' => e = .returned (.tuple #[.int .i64 (scaleV a n d how), .int .i64 0]) ∧ Below w.heap.size w w' := by
  have key : ∀ W : World, Below (w.heap.size + 4) ((((w.alloc (.cells #[.int .i64 a] 41)).alloc (.cells #[.int .i64 n] 3)).alloc (.cells #[.int .i64 d] 3)).alloc (.cells #[.int .i64 how] 3)) W →
      Calls Try.prog 75 #[.pointer (some ⟨w.heap.size, 0, none⟩), .pointer (some ⟨w.heap.size + 3, 0, none⟩), .pointer (some ⟨w.heap.size + 1, 0, none⟩), .pointer (some ⟨w.heap.size + 2, 0, none⟩)] W fun e W' => e = .returned (.int .i64 (scaleV a n d how)) ∧ Below W.heap.size W W' := fun W hB => by
    have hsz := hB.size
    simp at hsz
    refine Scale1_c _ _ _ _ _ _ _ _ _ ?_ ?_ ?_ ?_ (by omega) (by omega) (by omega) (by omega) ha hh0 hh3 hn hd hd0 hs hq
    all_goals (rw [hB.cell (by simp)]; simp [go_sem])
  have KEY := Aside.mk key
  clear key hq hs
  go_enter Try.func73, Try.ntmps73
  go_wp2_with (go_at_call 74; refine (triedF_ok 75 _ _ _ (enters_of Try.func75 (by kernel_rfl) rfl) (fun W hW => KEY.out W (by simpa using hW))).mono ?_; rintro e w' ⟨rfl, zb⟩; obtain ⟨zc, zf⟩ := bcell zb; have zz := zb.size; (try simp at zz); (try have zq := fun b (h : b < w.heap.size) => (by omega : b < w'.heap.size)); (try have zq0 : w.heap.size < w'.heap.size := by omega); (try have zq1 : w.heap.size + 1 < w'.heap.size := by omega); (try have zq2 : w.heap.size + 2 < w'.heap.size := by omega); (try have zr0 : wr.heap.size < w'.heap.size := by omega); (try have zr1 : wr.heap.size + 1 < w'.heap.size := by omega))
  go_ret2
  exact ⟨rfl, (by repeat (with_reducible first | exact Below.refl _ _ | assumption | refine Below.al ?_ _ | refine Below.dr ?_ | refine Below.drn ?_ _ | refine Below.sc ?_ (by simp <;> omega) _ | refine Below.th ?_ (by assumption)))⟩
/-- rounded down (1), rounded up (2) -/
def shr (a b how : Int) : Int := if how = 1 then a / b else -((-a) / b)
theorem quo_small {r b : Int} (h0 : 0 ≤ r) (h1 : r < b) (neg : Bool) (how : Int) : quo r b neg how = if 0 < r ∧ way1 (cmpW 0 (r + r) 0 b) neg how = true then 1 else 0 := by
  simp [quo, qI, rI, Int.ediv_eq_zero_of_lt h0 h1, Int.emod_eq_of_lt h0 h1]
theorem shr_eq (a b how : Int) (hb : 0 < b) (h : how = 1 ∨ how = 2) : a.tdiv b + scaleV (a.tmod b) 1 b how = shr a b how := by
  have e := Int.mul_tdiv_add_tmod a b
  have hab : b.natAbs = b := by omega
  have hlt : (a.tmod b).natAbs < b.natAbs := by rw [Int.natAbs_tmod]; exact Nat.mod_lt _ (by omega)
  have hq := quo_small (r := ((a.tmod b).natAbs : Int)) (b := b) (by omega) (by omega)
  have e1 : ((a.tmod b).natAbs : Int) * ((1 : Int).natAbs : Int) = ((a.tmod b).natAbs : Int) := by simp
  have e2 : negS (a.tmod b) 1 b = decide (a.tmod b < 0) := by simp [negS, show ¬ b < 0 from by omega]
  unfold scaleV
  rw [e1, e2, hab, hq]
  have f1 : ∀ q : Int, q * b ≤ a → a < q * b + b → a / b = q := fun q h1 h2 => by
    have := Int.ediv_emod_unique (a := a) (b := b) (q := q) (r := a - q * b) hb
    exact (this.2 ⟨by rw [Int.mul_comm b q]; omega, by omega, by omega⟩).1
  have f2 : ∀ q : Int, q * b ≤ -a → -a < q * b + b → (-a) / b = q := fun q h1 h2 => by
    have := Int.ediv_emod_unique (a := -a) (b := b) (q := q) (r := -a - q * b) hb
    exact (this.2 ⟨by rw [Int.mul_comm b q]; omega, by omega, by omega⟩).1
  have em : b * a.tdiv b = a.tdiv b * b := Int.mul_comm _ _
  generalize a.tdiv b = q at *
  generalize a.tmod b = r at *
  have s1 : (q - 1) * b = q * b - b := by rw [Int.sub_mul]; omega
  have s2 : (-q) * b = -(q * b) := by rw [Int.neg_mul]
  have s3 : (-q - 1) * b = -(q * b) - b := by rw [Int.sub_mul, Int.neg_mul]; omega
  rcases h with rfl | rfl
  · by_cases hr : r < 0
    · rw [if_pos (by simp [way1, hr]; omega)]
      simp only [sgn, hr, decide_true, if_true, shr]
      rw [f1 (q - 1) (by omega) (by omega)]; omega
    · rw [if_neg (by simp [way1, hr])]
      simp only [sgn, hr, decide_false, Bool.false_eq_true, if_false, shr, if_true]
      rw [f1 q (by omega) (by omega)]; omega
  · by_cases hr : r < 0
    · rw [if_neg (by simp [way1, hr])]
      simp only [sgn, hr, decide_true, if_true, shr]
      rw [if_neg (by decide), f2 (-q) (by omega) (by omega)]; omega
    · by_cases h0 : r = 0
      · subst h0
        simp only [sgn, shr]
        simp
        rw [f2 (-q) (by omega) (by omega)]; omega
      · rw [if_pos (by simp [way1, hr]; omega)]
        simp only [sgn, hr, decide_false, Bool.false_eq_true, if_false, shr]
        rw [if_neg (by decide), f2 (-q - 1) (by omega) (by omega)]; omega
theorem share_c (a b how : Int) (ha : -4611686018427387904 ≤ a) (ha2 : a ≤ 4611686018427387904) (hb : 0 < b) (hb2 : b ≤ 2147483648) (h : how = 1 ∨ how = 2) (w : World) :
    Calls Try.prog 71 #[.int .i64 a, .int .i64 b, .int .i64 how] w fun e w' => e = .returned (.tuple #[.int .i64 (shr a b how), .int .i64 0]) ∧ Below w.heap.size w w' := by
  have hlt : (a.tmod b).natAbs < b.natAbs := by rw [Int.natAbs_tmod]; exact Nat.mod_lt _ (by omega)
  have hle : (a.tdiv b).natAbs ≤ a.natAbs := by rw [Int.natAbs_tdiv]; exact Nat.div_le_self _ _
  have hfix : fixOk (a.tmod b) = true := inR_iff.2 ⟨by omega, by omega⟩
  have hs := shr_eq a b how hb h
  have h0 : (b == 0) = false := by simp; omega
  have h0' : ¬ b = 0 := by omega
  have hq : ∀ neg, quo (((a.tmod b).natAbs : Int) * ((1 : Int).natAbs : Int)) (b.natAbs : Int) neg how ≤ 70368744177664 := fun neg => by
    rw [show ((a.tmod b).natAbs : Int) * ((1 : Int).natAbs : Int) = ((a.tmod b).natAbs : Int) from by simp, quo_small (by omega) (by omega)]; split <;> omega
  have hsm : ((a.tmod b).natAbs : Int) * ((1 : Int).natAbs : Int) < 9223372036854775807 := by
    rw [show ((a.tmod b).natAbs : Int) * ((1 : Int).natAbs : Int) = ((a.tmod b).natAbs : Int) from by simp]; omega
  have KEY := Aside.mk (fun w => Scale_c (a.tmod b) 1 b how w hfix (by omega) (by omega) (by decide) (inR_iff.2 ⟨by omega, by omega⟩) h0' hsm hq)
  have HS := Lib.hid hs
  have t1 : -4611686018427387904 ≤ a.tdiv b := by have : (a.tdiv b).natAbs ≤ 4611686018427387904 := by omega
                                                  omega
  have t2 : a.tdiv b ≤ 4611686018427387904 := by omega
  have r1 : -2147483648 ≤ a.tmod b := by omega
  have r2 : a.tmod b ≤ 2147483648 := by omega
  have sb : -1 ≤ scaleV (a.tmod b) 1 b how ∧ scaleV (a.tmod b) 1 b how ≤ 1 := by
    unfold scaleV
    rw [show ((a.tmod b).natAbs : Int) * ((1 : Int).natAbs : Int) = ((a.tmod b).natAbs : Int) from by simp, quo_small (by omega) (by omega)]
    unfold sgn; split <;> split <;> omega
  obtain ⟨sb1, sb2⟩ := sb
  have hh : 1 ≤ how ∧ how ≤ 2 := by omega
  clear hq hs hlt hle h hsm
  go_enter Try.func71, Try.ntmps71
  go_wp2_with fail
  go_quiet (fail)
  go_wp2_with (go_at_call 73; refine (KEY.out _).mono ?_; rintro e w' ⟨rfl, zb⟩; obtain ⟨zc, zf⟩ := bcell zb; have zz := zb.size; (try simp at zz); (try have zq := fun b (h : b < w.heap.size) => (by omega : b < w'.heap.size)); (try have zq0 : w.heap.size < w'.heap.size := by omega); (try have zq1 : w.heap.size + 1 < w'.heap.size := by omega); (try have zq2 : w.heap.size + 2 < w'.heap.size := by omega); (try have zr0 : wr.heap.size < w'.heap.size := by omega); (try have zr1 : wr.heap.size + 1 < w'.heap.size := by omega))
  go_ret2
  refine ⟨?_, (by repeat (with_reducible first | exact Below.refl _ _ | assumption | refine Below.al ?_ _ | refine Below.dr ?_ | refine Below.drn ?_ _ | refine Below.sc ?_ (by simp <;> omega) _ | refine Below.th ?_ (by assumption)))⟩
  rw [← HS.out]
  rfl
end Go.Proofs.Ytjbgdpbeabakiaa
