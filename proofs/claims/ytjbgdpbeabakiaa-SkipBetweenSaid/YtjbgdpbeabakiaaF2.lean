/- Contracts of package fixed: a small quotient, rounded; Scale at small arguments. -/
import Derived.Test.YtjbgdpbeabakiaaF1
import Derived.Laws.Externs
namespace Go.Proofs.Ytjbgdpbeabakiaa
open Go.RowKit
set_option linter.unusedVariables false
set_option linter.unusedSimpArgs false

theorem add64_run (x y c : Nat) (hc : c ≤ 1) (w : World) : (callFunc 94 #[.int .u64 x, .int .u64 y, .int .u64 c]).run Try.prog w =
    .ok (.value (.tuple #[.int .u64 (((x + y + c) % 18446744073709551616 : Nat) : Int), .int .u64 (((x + y + c) / 18446744073709551616 : Nat) : Int)])) w := by
  rw [run_callFunc_extern Try.func94 (by kernel_rfl) (by kernel_rfl) (by kernel_rfl) (e := add64Entry) (by kernel_rfl), run_add64 x y c (by omega) (by omega) (by omega) (by omega)]
  simp only [Result.andThen]
  congr 5 <;> omega
/-- a sum below 2^64 -/
theorem plus_c (r s : Int) (hr : 0 ≤ r) (hs : 0 ≤ s) (h : r + s < 18446744073709551616) (w : World) : Calls Try.prog 89 #[.agg #[.int .u64 0, .int .u64 r], .agg #[.int .u64 0, .int .u64 s]] w fun e w' => e = .returned (.agg #[.int .u64 0, .int .u64 (r + s)]) ∧ Below w.heap.size w w' := by
  have a1 : ∀ w, (callFunc 94 #[.int .u64 r, .int .u64 s, .int .u64 0]).run Try.prog w = .ok (.value (.tuple #[.int .u64 (r + s), .int .u64 0])) w := fun w => by
    obtain ⟨a, rfl⟩ := Int.eq_ofNat_of_zero_le hr
    obtain ⟨b, rfl⟩ := Int.eq_ofNat_of_zero_le hs
    have h' : a + b < 18446744073709551616 := by omega
    have := add64_run a b 0 (by omega) w
    rw [Nat.add_zero, Nat.mod_eq_of_lt h', Nat.div_eq_of_lt h'] at this
    exact this
  have a2 : ∀ w, (callFunc 94 #[.int .u64 0, .int .u64 0, .int .u64 0]).run Try.prog w = .ok (.value (.tuple #[.int .u64 0, .int .u64 0])) w := fun w => add64_run 0 0 0 (by omega) w
  go_enter Try.func89, Try.ntmps89
  go_wp2
  refine bodyPost_ret (v := .agg #[.int .u64 0, .int .u64 (r + s)]) (by simp [results, Try.results89, go_sem]) rfl ?_
  exact ⟨rfl, (by repeat (with_reducible first | exact Below.refl _ _ | assumption | refine Below.al ?_ _ | refine Below.dr ?_ | refine Below.drn ?_ _ | refine Below.sc ?_ (by simp <;> omega) _ | refine Below.th ?_ (by assumption)))⟩
def qI (l d : Int) : Int := l / d
def rI (l d : Int) : Int := l % d
theorem qI_bd {l d : Int} (hl : 0 ≤ l) (h0 : 0 < d) : 0 ≤ qI l d ∧ qI l d ≤ l := ⟨Int.ediv_nonneg hl (by omega), Int.ediv_le_self _ hl⟩
theorem rI_bd {l d : Int} (h0 : 0 < d) : 0 ≤ rI l d ∧ rI l d < d := ⟨Int.emod_nonneg _ (by omega), Int.emod_lt_of_pos _ h0⟩
theorem wrapU {x : Int} (h0 : 0 ≤ x) (h : x < 18446744073709551616) : IntKind.u64.wrap x = x := by rw [IntKind.wrap_u64]; exact Int.emod_eq_of_lt h0 h
theorem Div64_c (l d : Int) (hl0 : 0 ≤ l) (hl : l < 18446744073709551616) (h0 : 0 < d) (hd : d < 18446744073709551616) (w : World) : Calls Try.prog 93 #[.int .u64 0, .int .u64 l, .int .u64 d] w fun e w' =>
    e = .returned (.tuple #[.int .u64 (qI l d), .int .u64 (rI l d)]) ∧ Below w.heap.size w w' := by
  have e0 : (d == 0) = false := by simp; omega
  have e1 : decide (d ≤ 0) = false := by simp; omega
  have e2 : ¬ d = 0 := by omega
  go_enter Try.func93, Try.ntmps93
  go_wp2_with fail
  go_quiet (fail)
  go_wp2
  go_ret2
  exact ⟨by simp [qI, rI], (by repeat (with_reducible first | exact Below.refl _ _ | assumption | refine Below.al ?_ _ | refine Below.dr ?_ | refine Below.drn ?_ _ | refine Below.sc ?_ (by simp <;> omega) _ | refine Below.th ?_ (by assumption)))⟩
theorem over_c (l d : Int) (hl0 : 0 ≤ l) (hl : l < 18446744073709551616) (h0 : 0 < d) (hd : d < 18446744073709551616) (w : World) : Calls Try.prog 88 #[.agg #[.int .u64 0, .int .u64 l], .int .u64 d] w fun e w' =>
    e = .returned (.tuple #[.int .u64 (qI l d), .int .u64 (rI l d), .bool true]) ∧ Below w.heap.size w w' := by
  have e1 : decide (d ≤ 0) = false := by simp; omega
  go_enter Try.func88, Try.ntmps88
  go_wp2_with (go_at_call 93; refine (Div64_c _ _ hl0 hl h0 hd _).mono ?_; rintro e w' ⟨rfl, zb⟩; obtain ⟨zc, zf⟩ := bcell zb; have zz := zb.size; (try simp at zz); (try have zq := fun b (h : b < w.heap.size) => (by omega : b < w'.heap.size)); (try have zq0 : w.heap.size < w'.heap.size := by omega); (try have zq1 : w.heap.size + 1 < w'.heap.size := by omega); (try have zq2 : w.heap.size + 2 < w'.heap.size := by omega); (try have zr0 : wr.heap.size < w'.heap.size := by omega); (try have zr1 : wr.heap.size + 1 < w'.heap.size := by omega))
  go_ret3
  exact ⟨rfl, (by repeat (with_reducible first | exact Below.refl _ _ | assumption | refine Below.al ?_ _ | refine Below.dr ?_ | refine Below.drn ?_ _ | refine Below.sc ?_ (by simp <;> omega) _ | refine Below.th ?_ (by assumption)))⟩
def sgn (neg : Bool) (n : Int) : Int := if neg then -n else n
theorem signed_c (n : Int) (h0 : 0 ≤ n) (h : n ≤ 70368744177664) (neg : Bool) (w : World) : Calls Try.prog 91 #[.int .u64 n, .bool neg] w fun e w' => e = .returned (.int .i64 (sgn neg n)) ∧ w = w' := by
  have e1 : decide (n ≤ 70368744177664) = true := by simp; omega
  cases neg
  all_goals
    go_enter Try.func91, Try.ntmps91
    go_wp2_with (go_at_call 78; refine (need_ok _ _).mono ?_; rintro e w' ⟨rfl, rfl⟩)
    go_ret
    exact ⟨ret_int (by simp [sgn]), rfl⟩
/-- a quotient of sizes, rounded: -/
def quo (n d : Int) (neg : Bool) (how : Int) : Int := qI n d + if 0 < rI n d ∧ way1 (cmpW 0 (rI n d + rI n d) 0 d) neg how = true then 1 else 0
theorem quotient_0 (n d : Int) (hn0 : 0 ≤ n) (hn : n < 9223372036854775807) (h0 : 0 < d) (hd : d < 9223372036854775807) (neg : Bool) (hq : quo n d neg 0 ≤ 70368744177664) (w : World) :
    Calls Try.prog 79 #[.agg #[.int .u64 0, .int .u64 n], .int .u64 d, .bool neg, .func (.func 84) #[] #[]] w fun e w' => e = .returned (.int .i64 (sgn neg (quo n d neg 0))) ∧ Below w.heap.size w w' := by
  obtain ⟨q0, q1⟩ := qI_bd hn0 h0
  obtain ⟨r0, r1⟩ := rI_bd (l := n) h0
  have e1 : decide (qI n d < 9223372036854775808) = true := by simp; omega
  by_cases hr : 0 < rI n d
  · cases hb : way1 (cmpW 0 (rI n d + rI n d) 0 d) neg 0
    · have hq' : quo n d neg 0 = qI n d := by simp [quo, hr, hb]
      rw [hq'] at hq
      rw [hq']
      go_enter Try.func79, Try.ntmps79
      go_wp2_with (first | (go_at_call 88; refine (over_c _ _ hn0 (by omega) h0 (by omega) _).mono ?_; rintro e w' ⟨rfl, zb⟩; obtain ⟨zc, zf⟩ := bcell zb; have zz := zb.size; (try simp at zz); (try have zq := fun b (h : b < w.heap.size) => (by omega : b < w'.heap.size)); (try have zq0 : w.heap.size < w'.heap.size := by omega); (try have zq1 : w.heap.size + 1 < w'.heap.size := by omega); (try have zq2 : w.heap.size + 2 < w'.heap.size := by omega); (try have zr0 : wr.heap.size < w'.heap.size := by omega); (try have zr1 : wr.heap.size + 1 < w'.heap.size := by omega)) | (go_at_call 78; refine (need_ok _ _).mono ?_; rintro e w' ⟨rfl, rfl⟩) | (go_at_call 89; refine (plus_c _ _ r0 r0 (by omega) _).mono ?_; rintro e w' ⟨rfl, zb⟩; obtain ⟨zc, zf⟩ := bcell zb; have zz := zb.size; (try simp at zz); (try have zq := fun b (h : b < w.heap.size) => (by omega : b < w'.heap.size)); (try have zq0 : w.heap.size < w'.heap.size := by omega); (try have zq1 : w.heap.size + 1 < w'.heap.size := by omega); (try have zq2 : w.heap.size + 2 < w'.heap.size := by omega); (try have zr0 : wr.heap.size < w'.heap.size := by omega); (try have zr1 : wr.heap.size + 1 < w'.heap.size := by omega)) | (go_at_call 90; refine (compare_c _ _ _ _ _).mono ?_; rintro e w' ⟨rfl, zb⟩; obtain ⟨zc, zf⟩ := bcell zb; have zz := zb.size; (try simp at zz); (try have zq := fun b (h : b < w.heap.size) => (by omega : b < w'.heap.size)); (try have zq0 : w.heap.size < w'.heap.size := by omega); (try have zq1 : w.heap.size + 1 < w'.heap.size := by omega); (try have zq2 : w.heap.size + 2 < w'.heap.size := by omega); (try have zr0 : wr.heap.size < w'.heap.size := by omega); (try have zr1 : wr.heap.size + 1 < w'.heap.size := by omega)) | (go_at_call 84; refine (ways1_c _ _ _).mono ?_; rintro e w' ⟨rfl, rfl⟩) | (go_at_call 91; refine (signed_c _ (by omega) (by omega) _ _).mono ?_; rintro e w' ⟨rfl, rfl⟩))
      go_ret
      exact ⟨rfl, (by repeat (with_reducible first | exact Below.refl _ _ | assumption | refine Below.al ?_ _ | refine Below.dr ?_ | refine Below.drn ?_ _ | refine Below.sc ?_ (by simp <;> omega) _ | refine Below.th ?_ (by assumption)))⟩
    · have hq' : quo n d neg 0 = qI n d + 1 := by simp [quo, hr, hb]
      rw [hq'] at hq
      rw [hq']
      go_enter Try.func79, Try.ntmps79
      go_wp2_with (first | (go_at_call 88; refine (over_c _ _ hn0 (by omega) h0 (by omega) _).mono ?_; rintro e w' ⟨rfl, zb⟩; obtain ⟨zc, zf⟩ := bcell zb; have zz := zb.size; (try simp at zz); (try have zq := fun b (h : b < w.heap.size) => (by omega : b < w'.heap.size)); (try have zq0 : w.heap.size < w'.heap.size := by omega); (try have zq1 : w.heap.size + 1 < w'.heap.size := by omega); (try have zq2 : w.heap.size + 2 < w'.heap.size := by omega); (try have zr0 : wr.heap.size < w'.heap.size := by omega); (try have zr1 : wr.heap.size + 1 < w'.heap.size := by omega)) | (go_at_call 78; refine (need_ok _ _).mono ?_; rintro e w' ⟨rfl, rfl⟩) | (go_at_call 89; refine (plus_c _ _ r0 r0 (by omega) _).mono ?_; rintro e w' ⟨rfl, zb⟩; obtain ⟨zc, zf⟩ := bcell zb; have zz := zb.size; (try simp at zz); (try have zq := fun b (h : b < w.heap.size) => (by omega : b < w'.heap.size)); (try have zq0 : w.heap.size < w'.heap.size := by omega); (try have zq1 : w.heap.size + 1 < w'.heap.size := by omega); (try have zq2 : w.heap.size + 2 < w'.heap.size := by omega); (try have zr0 : wr.heap.size < w'.heap.size := by omega); (try have zr1 : wr.heap.size + 1 < w'.heap.size := by omega)) | (go_at_call 90; refine (compare_c _ _ _ _ _).mono ?_; rintro e w' ⟨rfl, zb⟩; obtain ⟨zc, zf⟩ := bcell zb; have zz := zb.size; (try simp at zz); (try have zq := fun b (h : b < w.heap.size) => (by omega : b < w'.heap.size)); (try have zq0 : w.heap.size < w'.heap.size := by omega); (try have zq1 : w.heap.size + 1 < w'.heap.size := by omega); (try have zq2 : w.heap.size + 2 < w'.heap.size := by omega); (try have zr0 : wr.heap.size < w'.heap.size := by omega); (try have zr1 : wr.heap.size + 1 < w'.heap.size := by omega)) | (go_at_call 84; refine (ways1_c _ _ _).mono ?_; rintro e w' ⟨rfl, rfl⟩) | (go_at_call 91; refine (signed_c _ (by omega) (by omega) _ _).mono ?_; rintro e w' ⟨rfl, rfl⟩))
      go_ret
      exact ⟨rfl, (by repeat (with_reducible first | exact Below.refl _ _ | assumption | refine Below.al ?_ _ | refine Below.dr ?_ | refine Below.drn ?_ _ | refine Below.sc ?_ (by simp <;> omega) _ | refine Below.th ?_ (by assumption)))⟩
  · have hq' : quo n d neg 0 = qI n d := by simp [quo, hr]
    rw [hq'] at hq
    rw [hq']
    go_enter Try.func79, Try.ntmps79
    go_wp2_with (first | (go_at_call 88; refine (over_c _ _ hn0 (by omega) h0 (by omega) _).mono ?_; rintro e w' ⟨rfl, zb⟩; obtain ⟨zc, zf⟩ := bcell zb; have zz := zb.size; (try simp at zz); (try have zq := fun b (h : b < w.heap.size) => (by omega : b < w'.heap.size)); (try have zq0 : w.heap.size < w'.heap.size := by omega); (try have zq1 : w.heap.size + 1 < w'.heap.size := by omega); (try have zq2 : w.heap.size + 2 < w'.heap.size := by omega); (try have zr0 : wr.heap.size < w'.heap.size := by omega); (try have zr1 : wr.heap.size + 1 < w'.heap.size := by omega)) | (go_at_call 78; refine (need_ok _ _).mono ?_; rintro e w' ⟨rfl, rfl⟩) | (go_at_call 91; refine (signed_c _ (by omega) (by omega) _ _).mono ?_; rintro e w' ⟨rfl, rfl⟩))
    go_ret
    exact ⟨rfl, (by repeat (with_reducible first | exact Below.refl _ _ | assumption | refine Below.al ?_ _ | refine Below.dr ?_ | refine Below.drn ?_ _ | refine Below.sc ?_ (by simp <;> omega) _ | refine Below.th ?_ (by assumption)))⟩
theorem quotient_1 (n d : Int) (hn0 : 0 ≤ n) (hn : n < 9223372036854775807) (h0 : 0 < d) (hd : d < 9223372036854775807) (neg : Bool) (hq : quo n d neg 1 ≤ 70368744177664) (w : World) :
    Calls Try.prog 79 #[.agg #[.int .u64 0, .int .u64 n], .int .u64 d, .bool neg, .func (.func 85) #[] #[]] w fun e w' => e = .returned (.int .i64 (sgn neg (quo n d neg 1))) ∧ Below w.heap.size w w' := by
  obtain ⟨q0, q1⟩ := qI_bd hn0 h0
  obtain ⟨r0, r1⟩ := rI_bd (l := n) h0
  have e1 : decide (qI n d < 9223372036854775808) = true := by simp; omega
  by_cases hr : 0 < rI n d
  · cases hb : way1 (cmpW 0 (rI n d + rI n d) 0 d) neg 1
    · have hq' : quo n d neg 1 = qI n d := by simp [quo, hr, hb]
      rw [hq'] at hq
      rw [hq']
      go_enter Try.func79, Try.ntmps79
      go_wp2_with (first | (go_at_call 88; refine (over_c _ _ hn0 (by omega) h0 (by omega) _).mono ?_; rintro e w' ⟨rfl, zb⟩; obtain ⟨zc, zf⟩ := bcell zb; have zz := zb.size; (try simp at zz); (try have zq := fun b (h : b < w.heap.size) => (by omega : b < w'.heap.size)); (try have zq0 : w.heap.size < w'.heap.size := by omega); (try have zq1 : w.heap.size + 1 < w'.heap.size := by omega); (try have zq2 : w.heap.size + 2 < w'.heap.size := by omega); (try have zr0 : wr.heap.size < w'.heap.size := by omega); (try have zr1 : wr.heap.size + 1 < w'.heap.size := by omega)) | (go_at_call 78; refine (need_ok _ _).mono ?_; rintro e w' ⟨rfl, rfl⟩) | (go_at_call 89; refine (plus_c _ _ r0 r0 (by omega) _).mono ?_; rintro e w' ⟨rfl, zb⟩; obtain ⟨zc, zf⟩ := bcell zb; have zz := zb.size; (try simp at zz); (try have zq := fun b (h : b < w.heap.size) => (by omega : b < w'.heap.size)); (try have zq0 : w.heap.size < w'.heap.size := by omega); (try have zq1 : w.heap.size + 1 < w'.heap.size := by omega); (try have zq2 : w.heap.size + 2 < w'.heap.size := by omega); (try have zr0 : wr.heap.size < w'.heap.size := by omega); (try have zr1 : wr.heap.size + 1 < w'.heap.size := by omega)) | (go_at_call 90; refine (compare_c _ _ _ _ _).mono ?_; rintro e w' ⟨rfl, zb⟩; obtain ⟨zc, zf⟩ := bcell zb; have zz := zb.size; (try simp at zz); (try have zq := fun b (h : b < w.heap.size) => (by omega : b < w'.heap.size)); (try have zq0 : w.heap.size < w'.heap.size := by omega); (try have zq1 : w.heap.size + 1 < w'.heap.size := by omega); (try have zq2 : w.heap.size + 2 < w'.heap.size := by omega); (try have zr0 : wr.heap.size < w'.heap.size := by omega); (try have zr1 : wr.heap.size + 1 < w'.heap.size := by omega)) | (go_at_call 85; refine (ways2_c _ _ _).mono ?_; rintro e w' ⟨rfl, rfl⟩) | (go_at_call 91; refine (signed_c _ (by omega) (by omega) _ _).mono ?_; rintro e w' ⟨rfl, rfl⟩))
      go_ret
      exact ⟨rfl, (by repeat (with_reducible first | exact Below.refl _ _ | assumption | refine Below.al ?_ _ | refine Below.dr ?_ | refine Below.drn ?_ _ | refine Below.sc ?_ (by simp <;> omega) _ | refine Below.th ?_ (by assumption)))⟩
    · have hq' : quo n d neg 1 = qI n d + 1 := by simp [quo, hr, hb]
      rw [hq'] at hq
      rw [hq']
      go_enter Try.func79, Try.ntmps79
      go_wp2_with (first | (go_at_call 88; refine (over_c _ _ hn0 (by omega) h0 (by omega) _).mono ?_; rintro e w' ⟨rfl, zb⟩; obtain ⟨zc, zf⟩ := bcell zb; have zz := zb.size; (try simp at zz); (try have zq := fun b (h : b < w.heap.size) => (by omega : b < w'.heap.size)); (try have zq0 : w.heap.size < w'.heap.size := by omega); (try have zq1 : w.heap.size + 1 < w'.heap.size := by omega); (try have zq2 : w.heap.size + 2 < w'.heap.size := by omega); (try have zr0 : wr.heap.size < w'.heap.size := by omega); (try have zr1 : wr.heap.size + 1 < w'.heap.size := by omega)) | (go_at_call 78; refine (need_ok _ _).mono ?_; rintro e w' ⟨rfl, rfl⟩) | (go_at_call 89; refine (plus_c _ _ r0 r0 (by omega) _).mono ?_; rintro e w' ⟨rfl, zb⟩; obtain ⟨zc, zf⟩ := bcell zb; have zz := zb.size; (try simp at zz); (try have zq := fun b (h : b < w.heap.size) => (by omega : b < w'.heap.size)); (try have zq0 : w.heap.size < w'.heap.size := by omega); (try have zq1 : w.heap.size + 1 < w'.heap.size := by omega); (try have zq2 : w.heap.size + 2 < w'.heap.size := by omega); (try have zr0 : wr.heap.size < w'.heap.size := by omega); (try have zr1 : wr.heap.size + 1 < w'.heap.size := by omega)) | (go_at_call 90; refine (compare_c _ _ _ _ _).mono ?_; rintro e w' ⟨rfl, zb⟩; obtain ⟨zc, zf⟩ := bcell zb; have zz := zb.size; (try simp at zz); (try have zq := fun b (h : b < w.heap.size) => (by omega : b < w'.heap.size)); (try have zq0 : w.heap.size < w'.heap.size := by omega); (try have zq1 : w.heap.size + 1 < w'.heap.size := by omega); (try have zq2 : w.heap.size + 2 < w'.heap.size := by omega); (try have zr0 : wr.heap.size < w'.heap.size := by omega); (try have zr1 : wr.heap.size + 1 < w'.heap.size := by omega)) | (go_at_call 85; refine (ways2_c _ _ _).mono ?_; rintro e w' ⟨rfl, rfl⟩) | (go_at_call 91; refine (signed_c _ (by omega) (by omega) _ _).mono ?_; rintro e w' ⟨rfl, rfl⟩))
      go_ret
      exact ⟨rfl, (by repeat (with_reducible first | exact Below.refl _ _ | assumption | refine Below.al ?_ _ | refine Below.dr ?_ | refine Below.drn ?_ _ | refine Below.sc ?_ (by simp <;> omega) _ | refine Below.th ?_ (by assumption)))⟩
  · have hq' : quo n d neg 1 = qI n d := by simp [quo, hr]
    rw [hq'] at hq
    rw [hq']
    go_enter Try.func79, Try.ntmps79
    go_wp2_with (first | (go_at_call 88; refine (over_c _ _ hn0 (by omega) h0 (by omega) _).mono ?_; rintro e w' ⟨rfl, zb⟩; obtain ⟨zc, zf⟩ := bcell zb; have zz := zb.size; (try simp at zz); (try have zq := fun b (h : b < w.heap.size) => (by omega : b < w'.heap.size)); (try have zq0 : w.heap.size < w'.heap.size := by omega); (try have zq1 : w.heap.size + 1 < w'.heap.size := by omega); (try have zq2 : w.heap.size + 2 < w'.heap.size := by omega); (try have zr0 : wr.heap.size < w'.heap.size := by omega); (try have zr1 : wr.heap.size + 1 < w'.heap.size := by omega)) | (go_at_call 78; refine (need_ok _ _).mono ?_; rintro e w' ⟨rfl, rfl⟩) | (go_at_call 91; refine (signed_c _ (by omega) (by omega) _ _).mono ?_; rintro e w' ⟨rfl, rfl⟩))
    go_ret
    exact ⟨rfl, (by repeat (with_reducible first | exact Below.refl _ _ | assumption | refine Below.al ?_ _ | refine Below.dr ?_ | refine Below.drn ?_ _ | refine Below.sc ?_ (by simp <;> omega) _ | refine Below.th ?_ (by assumption)))⟩
theorem quotient_2 (n d : Int) (hn0 : 0 ≤ n) (hn : n < 9223372036854775807) (h0 : 0 < d) (hd : d < 9223372036854775807) (neg : Bool) (hq : quo n d neg 2 ≤ 70368744177664) (w : World) :
    Calls Try.prog 79 #[.agg #[.int .u64 0, .int .u64 n], .int .u64 d, .bool neg, .func (.func 86) #[] #[]] w fun e w' => e = .returned (.int .i64 (sgn neg (quo n d neg 2))) ∧ Below w.heap.size w w' := by
  obtain ⟨q0, q1⟩ := qI_bd hn0 h0
  obtain ⟨r0, r1⟩ := rI_bd (l := n) h0
  have e1 : decide (qI n d < 9223372036854775808) = true := by simp; omega
  by_cases hr : 0 < rI n d
  · cases hb : way1 (cmpW 0 (rI n d + rI n d) 0 d) neg 2
    · have hq' : quo n d neg 2 = qI n d := by simp [quo, hr, hb]
      rw [hq'] at hq
      rw [hq']
      go_enter Try.func79, Try.ntmps79
      go_wp2_with (first | (go_at_call 88; refine (over_c _ _ hn0 (by omega) h0 (by omega) _).mono ?_; rintro e w' ⟨rfl, zb⟩; obtain ⟨zc, zf⟩ := bcell zb; have zz := zb.size; (try simp at zz); (try have zq := fun b (h : b < w.heap.size) => (by omega : b < w'.heap.size)); (try have zq0 : w.heap.size < w'.heap.size := by omega); (try have zq1 : w.heap.size + 1 < w'.heap.size := by omega); (try have zq2 : w.heap.size + 2 < w'.heap.size := by omega); (try have zr0 : wr.heap.size < w'.heap.size := by omega); (try have zr1 : wr.heap.size + 1 < w'.heap.size := by omega)) | (go_at_call 78; refine (need_ok _ _).mono ?_; rintro e w' ⟨rfl, rfl⟩) | (go_at_call 89; refine (plus_c _ _ r0 r0 (by omega) _).mono ?_; rintro e w' ⟨rfl, zb⟩; obtain ⟨zc, zf⟩ := bcell zb; have zz := zb.size; (try simp at zz); (try have zq := fun b (h : b < w.heap.size) => (by omega : b < w'.heap.size)); (try have zq0 : w.heap.size < w'.heap.size := by omega); (try have zq1 : w.heap.size + 1 < w'.heap.size := by omega); (try have zq2 : w.heap.size + 2 < w'.heap.size := by omega); (try have zr0 : wr.heap.size < w'.heap.size := by omega); (try have zr1 : wr.heap.size + 1 < w'.heap.size := by omega)) | (go_at_call 90; refine (compare_c _ _ _ _ _).mono ?_; rintro e w' ⟨rfl, zb⟩; obtain ⟨zc, zf⟩ := bcell zb; have zz := zb.size; (try simp at zz); (try have zq := fun b (h : b < w.heap.size) => (by omega : b < w'.heap.size)); (try have zq0 : w.heap.size < w'.heap.size := by omega); (try have zq1 : w.heap.size + 1 < w'.heap.size := by omega); (try have zq2 : w.heap.size + 2 < w'.heap.size := by omega); (try have zr0 : wr.heap.size < w'.heap.size := by omega); (try have zr1 : wr.heap.size + 1 < w'.heap.size := by omega)) | (go_at_call 86; refine (ways3_c _ _ _).mono ?_; rintro e w' ⟨rfl, rfl⟩) | (go_at_call 91; refine (signed_c _ (by omega) (by omega) _ _).mono ?_; rintro e w' ⟨rfl, rfl⟩))
      go_ret
      exact ⟨rfl, (by repeat (with_reducible first | exact Below.refl _ _ | assumption | refine Below.al ?_ _ | refine Below.dr ?_ | refine Below.drn ?_ _ | refine Below.sc ?_ (by simp <;> omega) _ | refine Below.th ?_ (by assumption)))⟩
    · have hq' : quo n d neg 2 = qI n d + 1 := by simp [quo, hr, hb]
      rw [hq'] at hq
      rw [hq']
      go_enter Try.func79, Try.ntmps79
      go_wp2_with (first | (go_at_call 88; refine (over_c _ _ hn0 (by omega) h0 (by omega) _).mono ?_; rintro e w' ⟨rfl, zb⟩; obtain ⟨zc, zf⟩ := bcell zb; have zz := zb.size; (try simp at zz); (try have zq := fun b (h : b < w.heap.size) => (by omega : b < w'.heap.size)); (try have zq0 : w.heap.size < w'.heap.size := by omega); (try have zq1 : w.heap.size + 1 < w'.heap.size := by omega); (try have zq2 : w.heap.size + 2 < w'.heap.size := by omega); (try have zr0 : wr.heap.size < w'.heap.size := by omega); (try have zr1 : wr.heap.size + 1 < w'.heap.size := by omega)) | (go_at_call 78; refine (need_ok _ _).mono ?_; rintro e w' ⟨rfl, rfl⟩) | (go_at_call 89; refine (plus_c _ _ r0 r0 (by omega) _).mono ?_; rintro e w' ⟨rfl, zb⟩; obtain ⟨zc, zf⟩ := bcell zb; have zz := zb.size; (try simp at zz); (try have zq := fun b (h : b < w.heap.size) => (by omega : b < w'.heap.size)); (try have zq0 : w.heap.size < w'.heap.size := by omega); (try have zq1 : w.heap.size + 1 < w'.heap.size := by omega); (try have zq2 : w.heap.size + 2 < w'.heap.size := by omega); (try have zr0 : wr.heap.size < w'.heap.size := by omega); (try have zr1 : wr.heap.size + 1 < w'.heap.size := by omega)) | (go_at_call 90; refine (compare_c _ _ _ _ _).mono ?_; rintro e w' ⟨rfl, zb⟩; obtain ⟨zc, zf⟩ := bcell zb; have zz := zb.size; (try simp at zz); (try have zq := fun b (h : b < w.heap.size) => (by omega : b < w'.heap.size)); (try have zq0 : w.heap.size < w'.heap.size := by omega); (try have zq1 : w.heap.size + 1 < w'.heap.size := by omega); (try have zq2 : w.heap.size + 2 < w'.heap.size := by omega); (try have zr0 : wr.heap.size < w'.heap.size := by omega); (try have zr1 : wr.heap.size + 1 < w'.heap.size := by omega)) | (go_at_call 86; refine (ways3_c _ _ _).mono ?_; rintro e w' ⟨rfl, rfl⟩) | (go_at_call 91; refine (signed_c _ (by omega) (by omega) _ _).mono ?_; rintro e w' ⟨rfl, rfl⟩))
      go_ret
      exact ⟨rfl, (by repeat (with_reducible first | exact Below.refl _ _ | assumption | refine Below.al ?_ _ | refine Below.dr ?_ | refine Below.drn ?_ _ | refine Below.sc ?_ (by simp <;> omega) _ | refine Below.th ?_ (by assumption)))⟩
  · have hq' : quo n d neg 2 = qI n d := by simp [quo, hr]
    rw [hq'] at hq
    rw [hq']
    go_enter Try.func79, Try.ntmps79
    go_wp2_with (first | (go_at_call 88; refine (over_c _ _ hn0 (by omega) h0 (by omega) _).mono ?_; rintro e w' ⟨rfl, zb⟩; obtain ⟨zc, zf⟩ := bcell zb; have zz := zb.size; (try simp at zz); (try have zq := fun b (h : b < w.heap.size) => (by omega : b < w'.heap.size)); (try have zq0 : w.heap.size < w'.heap.size := by omega); (try have zq1 : w.heap.size + 1 < w'.heap.size := by omega); (try have zq2 : w.heap.size + 2 < w'.heap.size := by omega); (try have zr0 : wr.heap.size < w'.heap.size := by omega); (try have zr1 : wr.heap.size + 1 < w'.heap.size := by omega)) | (go_at_call 78; refine (need_ok _ _).mono ?_; rintro e w' ⟨rfl, rfl⟩) | (go_at_call 91; refine (signed_c _ (by omega) (by omega) _ _).mono ?_; rintro e w' ⟨rfl, rfl⟩))
    go_ret
    exact ⟨rfl, (by repeat (with_reducible first | exact Below.refl _ _ | assumption | refine Below.al ?_ _ | refine Below.dr ?_ | refine Below.drn ?_ _ | refine Below.sc ?_ (by simp <;> omega) _ | refine Below.th ?_ (by assumption)))⟩
theorem quotient_3 (n d : Int) (hn0 : 0 ≤ n) (hn : n < 9223372036854775807) (h0 : 0 < d) (hd : d < 9223372036854775807) (neg : Bool) (hq : quo n d neg 3 ≤ 70368744177664) (w : World) :
    Calls Try.prog 79 #[.agg #[.int .u64 0, .int .u64 n], .int .u64 d, .bool neg, .func (.func 87) #[] #[]] w fun e w' => e = .returned (.int .i64 (sgn neg (quo n d neg 3))) ∧ Below w.heap.size w w' := by
  obtain ⟨q0, q1⟩ := qI_bd hn0 h0
  obtain ⟨r0, r1⟩ := rI_bd (l := n) h0
  have e1 : decide (qI n d < 9223372036854775808) = true := by simp; omega
  by_cases hr : 0 < rI n d
  · cases hb : way1 (cmpW 0 (rI n d + rI n d) 0 d) neg 3
    · have hq' : quo n d neg 3 = qI n d := by simp [quo, hr, hb]
      rw [hq'] at hq
      rw [hq']
      go_enter Try.func79, Try.ntmps79
      go_wp2_with (first | (go_at_call 88; refine (over_c _ _ hn0 (by omega) h0 (by omega) _).mono ?_; rintro e w' ⟨rfl, zb⟩; obtain ⟨zc, zf⟩ := bcell zb; have zz := zb.size; (try simp at zz); (try have zq := fun b (h : b < w.heap.size) => (by omega : b < w'.heap.size)); (try have zq0 : w.heap.size < w'.heap.size := by omega); (try have zq1 : w.heap.size + 1 < w'.heap.size := by omega); (try have zq2 : w.heap.size + 2 < w'.heap.size := by omega); (try have zr0 : wr.heap.size < w'.heap.size := by omega); (try have zr1 : wr.heap.size + 1 < w'.heap.size := by omega)) | (go_at_call 78; refine (need_ok _ _).mono ?_; rintro e w' ⟨rfl, rfl⟩) | (go_at_call 89; refine (plus_c _ _ r0 r0 (by omega) _).mono ?_; rintro e w' ⟨rfl, zb⟩; obtain ⟨zc, zf⟩ := bcell zb; have zz := zb.size; (try simp at zz); (try have zq := fun b (h : b < w.heap.size) => (by omega : b < w'.heap.size)); (try have zq0 : w.heap.size < w'.heap.size := by omega); (try have zq1 : w.heap.size + 1 < w'.heap.size := by omega); (try have zq2 : w.heap.size + 2 < w'.heap.size := by omega); (try have zr0 : wr.heap.size < w'.heap.size := by omega); (try have zr1 : wr.heap.size + 1 < w'.heap.size := by omega)) | (go_at_call 90; refine (compare_c _ _ _ _ _).mono ?_; rintro e w' ⟨rfl, zb⟩; obtain ⟨zc, zf⟩ := bcell zb; have zz := zb.size; (try simp at zz); (try have zq := fun b (h : b < w.heap.size) => (by omega : b < w'.heap.size)); (try have zq0 : w.heap.size < w'.heap.size := by omega); (try have zq1 : w.heap.size + 1 < w'.heap.size := by omega); (try have zq2 : w.heap.size + 2 < w'.heap.size := by omega); (try have zr0 : wr.heap.size < w'.heap.size := by omega); (try have zr1 : wr.heap.size + 1 < w'.heap.size := by omega)) | (go_at_call 87; refine (ways4_c _ _ _).mono ?_; rintro e w' ⟨rfl, rfl⟩) | (go_at_call 91; refine (signed_c _ (by omega) (by omega) _ _).mono ?_; rintro e w' ⟨rfl, rfl⟩))
      go_ret
      exact ⟨rfl, (by repeat (with_reducible first | exact Below.refl _ _ | assumption | refine Below.al ?_ _ | refine Below.dr ?_ | refine Below.drn ?_ _ | refine Below.sc ?_ (by simp <;> omega) _ | refine Below.th ?_ (by assumption)))⟩
    · have hq' : quo n d neg 3 = qI n d + 1 := by simp [quo, hr, hb]
      rw [hq'] at hq
      rw [hq']
      go_enter Try.func79, Try.ntmps79
      go_wp2_with (first | (go_at_call 88; refine (over_c _ _ hn0 (by omega) h0 (by omega) _).mono ?_; rintro e w' ⟨rfl, zb⟩; obtain ⟨zc, zf⟩ := bcell zb; have zz := zb.size; (try simp at zz); (try have zq := fun b (h : b < w.heap.size) => (by omega : b < w'.heap.size)); (try have zq0 : w.heap.size < w'.heap.size := by omega); (try have zq1 : w.heap.size + 1 < w'.heap.size := by omega); (try have zq2 : w.heap.size + 2 < w'.heap.size := by omega); (try have zr0 : wr.heap.size < w'.heap.size := by omega); (try have zr1 : wr.heap.size + 1 < w'.heap.size := by omega)) | (go_at_call 78; refine (need_ok _ _).mono ?_; rintro e w' ⟨rfl, rfl⟩) | (go_at_call 89; refine (plus_c _ _ r0 r0 (by omega) _).mono ?_; rintro e w' ⟨rfl, zb⟩; obtain ⟨zc, zf⟩ := bcell zb; have zz := zb.size; (try simp at zz); (try have zq := fun b (h : b < w.heap.size) => (by omega : b < w'.heap.size)); (try have zq0 : w.heap.size < w'.heap.size := by omega); (try have zq1 : w.heap.size + 1 < w'.heap.size := by omega); (try have zq2 : w.heap.size + 2 < w'.heap.size := by omega); (try have zr0 : wr.heap.size < w'.heap.size := by omega); (try have zr1 : wr.heap.size + 1 < w'.heap.size := by omega)) | (go_at_call 90; refine (compare_c _ _ _ _ _).mono ?_; rintro e w' ⟨rfl, zb⟩; obtain ⟨zc, zf⟩ := bcell zb; have zz := zb.size; (try simp at zz); (try have zq := fun b (h : b < w.heap.size) => (by omega : b < w'.heap.size)); (try have zq0 : w.heap.size < w'.heap.size := by omega); (try have zq1 : w.heap.size + 1 < w'.heap.size := by omega); (try have zq2 : w.heap.size + 2 < w'.heap.size := by omega); (try have zr0 : wr.heap.size < w'.heap.size := by omega); (try have zr1 : wr.heap.size + 1 < w'.heap.size := by omega)) | (go_at_call 87; refine (ways4_c _ _ _).mono ?_; rintro e w' ⟨rfl, rfl⟩) | (go_at_call 91; refine (signed_c _ (by omega) (by omega) _ _).mono ?_; rintro e w' ⟨rfl, rfl⟩))
      go_ret
      exact ⟨rfl, (by repeat (with_reducible first | exact Below.refl _ _ | assumption | refine Below.al ?_ _ | refine Below.dr ?_ | refine Below.drn ?_ _ | refine Below.sc ?_ (by simp <;> omega) _ | refine Below.th ?_ (by assumption)))⟩
  · have hq' : quo n d neg 3 = qI n d := by simp [quo, hr]
    rw [hq'] at hq
    rw [hq']
    go_enter Try.func79, Try.ntmps79
    go_wp2_with (first | (go_at_call 88; refine (over_c _ _ hn0 (by omega) h0 (by omega) _).mono ?_; rintro e w' ⟨rfl, zb⟩; obtain ⟨zc, zf⟩ := bcell zb; have zz := zb.size; (try simp at zz); (try have zq := fun b (h : b < w.heap.size) => (by omega : b < w'.heap.size)); (try have zq0 : w.heap.size < w'.heap.size := by omega); (try have zq1 : w.heap.size + 1 < w'.heap.size := by omega); (try have zq2 : w.heap.size + 2 < w'.heap.size := by omega); (try have zr0 : wr.heap.size < w'.heap.size := by omega); (try have zr1 : wr.heap.size + 1 < w'.heap.size := by omega)) | (go_at_call 78; refine (need_ok _ _).mono ?_; rintro e w' ⟨rfl, rfl⟩) | (go_at_call 91; refine (signed_c _ (by omega) (by omega) _ _).mono ?_; rintro e w' ⟨rfl, rfl⟩))
    go_ret
    exact ⟨rfl, (by repeat (with_reducible first | exact Below.refl _ _ | assumption | refine Below.al ?_ _ | refine Below.dr ?_ | refine Below.drn ?_ _ | refine Below.sc ?_ (by simp <;> omega) _ | refine Below.th ?_ (by assumption)))⟩
end Go.Proofs.Ytjbgdpbeabakiaa
