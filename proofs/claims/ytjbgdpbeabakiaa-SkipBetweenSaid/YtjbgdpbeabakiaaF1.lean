/- Contracts of package fixed: sizes, products, comparisons, ways of rounding. -/
import Derived.Test.YtjbgdpbeabakiaaB1
import Derived.Test.YtjbgdpbeabakiaaQ
import Derived.Shelf.Bits.Mul64
namespace Go.Proofs.Ytjbgdpbeabakiaa
open Go.RowKit
set_option linter.unusedVariables false
set_option linter.unusedSimpArgs false

theorem isNaN_c (a : Int) (w : World) : Calls Try.prog 98 #[.int .u64 a] w fun e w' => e = .returned (.bool false) ∧ w = w' := by
  go_enter Try.func98, Try.ntmps98
  go_wp2
  go_ret
  exact ⟨ret_bool (by simp), rfl⟩
def cmpI (a b : Int) : Int := if a < b then -1 else if b < a then 1 else 0
theorem Compare_c (a b : Int) (w : World) : Calls Try.prog 96 #[.int .u64 a, .int .u64 b] w fun e w' => e = .returned (.int .i64 (cmpI a b)) ∧ w = w' := by
  by_cases h1 : a < b
  · go_enter Try.func96, Try.ntmps96
    go_wp2_with (go_at_call 98; refine (isNaN_c _ _).mono ?_; rintro e w' ⟨rfl, rfl⟩)
    go_ret
    exact ⟨ret_int (by simp [cmpI, h1]), rfl⟩
  · by_cases h2 : b < a
    all_goals
      go_enter Try.func96, Try.ntmps96
      go_wp2_with (go_at_call 98; refine (isNaN_c _ _).mono ?_; rintro e w' ⟨rfl, rfl⟩)
      go_ret
      exact ⟨ret_int (by unfold cmpI; split <;> (try split) <;> omega), rfl⟩
def orI (a b : Int) : Int := if a ≠ 0 then a else b
theorem Or_c (a b : Int) (B c : Nat) (w : World) (h0 : w.cell? ⟨B, 0, none⟩ = some (.int .i64 a)) (h1 : w.cell? ⟨B, 1, none⟩ = some (.int .i64 b)) :
    Calls Try.prog 95 #[.slice (some ⟨B, 0, none⟩) 2 c] w fun e w' => e = .returned (.int .i64 (orI a b)) ∧ w = w' := by
  go_enter Try.func95, Try.ntmps95
  go_wp2
  go_loop [5, 8] (fun x i => ∃ k : Nat, k ≤ 2 ∧ i = .int .i64 k ∧ Hid ((0 < k → a = 0) ∧ (1 < k → b = 0))) (fun _ i => 2 - (intOf i).toNat)
  case atStart => exact ⟨0, Nat.zero_le _, rfl, fun h => absurd h (by omega), fun h => absurd h (by omega)⟩
  case round =>
    obtain ⟨k, hk, rfl, H⟩ := hrel
    obtain rfl | rfl | rfl : k = 0 ∨ k = 1 ∨ k = 2 := by omega
    · cases e : (a != 0)
      · go_wp2
        go_round
        case rel => exact ⟨1, by omega, by go_num, fun _ => by simpa using e, fun h => absurd h (by omega)⟩
        case measure => simp [intOf]
      · go_wp2
        go_ret
        exact ⟨ret_int (by simp [orI, (by simpa using e : ¬ a = 0)]), rfl⟩
    · have ha := H.out.1 (by omega)
      cases e : (b != 0)
      · subst ha
        go_wp2
        go_round
        case rel => exact ⟨2, by omega, by go_num, fun _ => by simp, fun _ => by simpa using e⟩
        case measure => simp [intOf]
      · subst ha
        go_wp2
        go_ret
        exact ⟨ret_int (by simp [orI]), rfl⟩
    · have ha := H.out.1 (by omega)
      have hb := H.out.2 (by omega)
      subst ha hb
      go_wp2
      go_ret
      exact ⟨ret_int (by simp [orI]), rfl⟩
def cmpW (h l h' l' : Int) : Int := orI (cmpI h h') (cmpI l l')
set_option maxRecDepth 100000 in
theorem compare_c (h l h' l' : Int) (w : World) : Calls Try.prog 90 #[.agg #[.int .u64 h, .int .u64 l], .agg #[.int .u64 h', .int .u64 l']] w fun e w' => e = .returned (.int .i64 (cmpW h l h' l')) ∧ Below w.heap.size w w' := by
  go_enter Try.func90, Try.ntmps90
  go_wp2
  refine wp_region_tail 10 (by kernel_rfl) (by kernel_rfl) ?_
  simp only [List.take_succ_cons, List.take_zero, List.drop_succ_cons, List.drop_zero]
  iterate 4 still_step
  still_call (still_q (Compare_c _ _ _))
  iterate 4 still_step
  still_call (still_q (Compare_c _ _ _))
  refine wpStill_nil ?_
  go_wp2_with fail
  refine (Or_c _ _ _ _ _ (by simp [go_sem]; rfl) (by simp [go_sem]; rfl)).mono ?_
  rintro e w' ⟨rfl, rfl⟩
  go_wp2
  go_ret
  exact ⟨rfl, (by repeat (with_reducible first | exact Below.refl _ _ | assumption | refine Below.al ?_ _ | refine Below.dr ?_ | refine Below.drn ?_ _ | refine Below.sc ?_ (by simp <;> omega) _ | refine Below.th ?_ (by assumption)))⟩
theorem Mul64_c (x y : Nat) (hx : x < 18446744073709551616) (hy : y < 18446744073709551616) (w : World) :
    Calls Try.prog 92 #[.int .u64 x, .int .u64 y] w fun e w' => e = .returned (.tuple #[.int .u64 ((x * y / 18446744073709551616 : Nat) : Int), .int .u64 ((x * y % 18446744073709551616 : Nat) : Int)]) ∧ w = w' := by
  obtain ⟨bd, bt, bw, hhi⟩ := Lib.mul64_hi x y hx hy
  have ba := Lib.half_mul_le (a := x / 4294967296) (b := y / 4294967296) (by omega) (by omega)
  have bb := Lib.half_mul_le (a := x / 4294967296) (b := y % 4294967296) (by omega) (by omega)
  have bc := Lib.half_mul_le (a := x % 4294967296) (b := y / 4294967296) (by omega) (by omega)
  have ba' : x / 4294967296 * (y / 4294967296) < 18446744073709551616 := by omega
  have bb' : x / 4294967296 * (y % 4294967296) < 18446744073709551616 := by omega
  have bc' : x % 4294967296 * (y / 4294967296) < 18446744073709551616 := by omega
  have bh1 : x / 4294967296 * (y / 4294967296) + (x / 4294967296 * (y % 4294967296) + x % 4294967296 * (y % 4294967296) / 4294967296) / 4294967296 < 18446744073709551616 := by omega
  have bh : x / 4294967296 * (y / 4294967296) + (x / 4294967296 * (y % 4294967296) + x % 4294967296 * (y % 4294967296) / 4294967296) / 4294967296 + ((x / 4294967296 * (y % 4294967296) + x % 4294967296 * (y % 4294967296) / 4294967296) % 4294967296 + x % 4294967296 * (y / 4294967296)) / 4294967296 < 18446744073709551616 := by omega
  go_enter Try.func92, Try.ntmps92
  go_wp2
  simp only [Mul64.maskN x hx, Mul64.maskN y hy, Mul64.divN, Mul64.mulN, Mul64.addN, Mul64.wrapN _ bd, Mul64.wrapN _ bb', Mul64.wrapN _ bt, Mul64.maskN _ bt, Mul64.wrapN _ bc', Mul64.wrapN _ bw, Mul64.wrapN _ ba', Mul64.wrapN _ bh1, Mul64.wrapN _ bh, Mul64.wrapM (x * y)]
  rw [hhi]
  go_ret2
  exact ⟨rfl, rfl⟩
theorem product_c (x y : Nat) (hx : x < 18446744073709551616) (hy : y < 18446744073709551616) (w : World) :
    Calls Try.prog 80 #[.int .u64 x, .int .u64 y] w fun e w' => e = .returned (.agg #[.int .u64 ((x * y / 18446744073709551616 : Nat) : Int), .int .u64 ((x * y % 18446744073709551616 : Nat) : Int)]) ∧ Below w.heap.size w w' := by
  go_enter Try.func80, Try.ntmps80
  go_wp2_with (go_at_call 92; refine (Mul64_c _ _ hx hy _).mono ?_; rintro e w' ⟨rfl, rfl⟩)
  refine bodyPost_ret (v := .agg #[.int .u64 ((x * y / 18446744073709551616 : Nat) : Int), .int .u64 ((x * y % 18446744073709551616 : Nat) : Int)]) (by simp [results, Try.results80, go_sem]) rfl ?_
  exact ⟨rfl, (by repeat (with_reducible first | exact Below.refl _ _ | assumption | refine Below.al ?_ _ | refine Below.dr ?_ | refine Below.drn ?_ _ | refine Below.sc ?_ (by simp <;> omega) _ | refine Below.th ?_ (by assumption)))⟩
theorem size_F_c (a : Int) (h1 : -4611686018427387904 ≤ a) (h2 : a ≤ 4611686018427387904) (w : World) : Calls Try.prog 81 #[.int .i64 a] w fun e w' => e = .returned (.int .u64 (a.natAbs : Int)) ∧ w = w' := by
  by_cases h : a < 0
  · go_enter Try.func81, Try.ntmps81
    go_wp2
    go_ret
    exact ⟨ret_int (by simp only [IntKind.wrap_u64]; omega), rfl⟩
  · go_enter Try.func81, Try.ntmps81
    go_wp2
    go_ret
    exact ⟨ret_int (by (try simp only [IntKind.wrap_u64]); omega), rfl⟩
theorem size_I_c (a : Int) (h1 : -4611686018427387904 ≤ a) (h2 : a ≤ 4611686018427387904) (w : World) : Calls Try.prog 82 #[.int .i64 a] w fun e w' => e = .returned (.int .u64 (a.natAbs : Int)) ∧ w = w' := by
  by_cases h : a < 0
  · go_enter Try.func82, Try.ntmps82
    go_wp2
    go_ret
    exact ⟨ret_int (by simp only [IntKind.wrap_u64]; omega), rfl⟩
  · go_enter Try.func82, Try.ntmps82
    go_wp2
    go_ret
    exact ⟨ret_int (by (try simp only [IntKind.wrap_u64]); omega), rfl⟩
def way1 (d : Int) (neg : Bool) (how : Int) : Bool := if how = 0 then false else if how = 1 then neg else if how = 2 then !neg else decide (0 ≤ d)
theorem ways1_c (d : Int) (neg : Bool) (w : World) : Calls Try.prog 84 #[.int .i64 d, .bool neg] w fun e w' => e = .returned (.bool (way1 d neg 0)) ∧ w = w' := by
  go_enter Try.func84, Try.ntmps84
  go_wp2
  go_ret
  exact ⟨ret_bool (by simp [way1]), rfl⟩
theorem ways2_c (d : Int) (neg : Bool) (w : World) : Calls Try.prog 85 #[.int .i64 d, .bool neg] w fun e w' => e = .returned (.bool (way1 d neg 1)) ∧ w = w' := by
  go_enter Try.func85, Try.ntmps85
  go_wp2
  go_ret
  exact ⟨ret_bool (by simp [way1]), rfl⟩
theorem ways3_c (d : Int) (neg : Bool) (w : World) : Calls Try.prog 86 #[.int .i64 d, .bool neg] w fun e w' => e = .returned (.bool (way1 d neg 2)) ∧ w = w' := by
  go_enter Try.func86, Try.ntmps86
  go_wp2
  go_ret
  exact ⟨ret_bool (by simp [way1]), rfl⟩
theorem ways4_c (d : Int) (neg : Bool) (w : World) : Calls Try.prog 87 #[.int .i64 d, .bool neg] w fun e w' => e = .returned (.bool (way1 d neg 3)) ∧ w = w' := by
  go_enter Try.func87, Try.ntmps87
  go_wp2
  go_ret
  exact ⟨ret_bool (by simp [way1]), rfl⟩
/-- Go's run-time: 'panic(misfit{e})' -/
def misF (T : TypeId) (e : Int) : List PanicEntry := [{ v := .iface T (.agg #[.int .i64 e]), recovered := false }]
theorem need_ok (e : Int) (w : World) : Calls Try.prog 78 #[.bool true, .int .i64 e] w fun x w' => x = .returned (.tuple #[]) ∧ w = w' := by
  go_enter Try.func78, Try.ntmps78
  go_wp2
  go_end0
  exact ⟨rfl, rfl⟩
theorem need_no (e : Int) (w : World) : Calls Try.prog 78 #[.bool false, .int .i64 e] w fun x w' => x = .panicked (misF 129 e) ∧ w = w' := by
  go_enter Try.func78, Try.ntmps78
  go_wp2
  exact ⟨rfl, rfl, rfl⟩
/-- which closure rounds -/
def wayV (how : Int) : Value := if how = 0 then .func (.func 84) #[] #[] else if how = 1 then .func (.func 85) #[] #[] else if how = 2 then .func (.func 86) #[] #[] else .func (.func 87) #[] #[]
theorem ways_ok (how : Int) (h0 : 0 ≤ how) (h3 : how ≤ 3) (w : World) : Calls Try.prog 77 #[.int .i64 how] w fun x w' => x = .returned (wayV how) ∧ w = w' := by
  obtain rfl | rfl | rfl | rfl : how = 0 ∨ how = 1 ∨ how = 2 ∨ how = 3 := by omega
  all_goals
    go_enter Try.func77, Try.ntmps77
    go_wp2
    go_ret
    exact ⟨by simp [wayV], rfl⟩
theorem ways_no (how : Int) (h0 : ¬ (0 ≤ how ∧ how ≤ 3)) (w : World) : Calls Try.prog 77 #[.int .i64 how] w fun x w' => x = .panicked (misF 129 2) ∧ w = w' := by
  have e0 : ¬ how = 0 := by omega
  have e1 : ¬ how = 1 := by omega
  have e2 : ¬ how = 2 := by omega
  have e3 : ¬ how = 3 := by omega
  clear h0
  go_enter Try.func77, Try.ntmps77
  go_wp2
  exact ⟨rfl, rfl, rfl⟩
def fixOk (a : Int) : Bool := inR a (-70368744177664) 70368744177664
theorem right_one (a : Int) (B c : Nat) (w : World) (h0 : w.cell? ⟨B, 0, none⟩ = some (.int .i64 a)) (hok : fixOk a = true) :
    Calls Try.prog 76 #[.slice (some ⟨B, 0, none⟩) 1 c] w fun e w' => e = .returned (.tuple #[]) ∧ w = w' := by
  obtain ⟨l1, l2⟩ := inR_iff.1 hok
  go_enter Try.func76, Try.ntmps76
  go_wp2
  go_loop [3, 6] (fun x i => ∃ k : Nat, k ≤ 1 ∧ i = .int .i64 k) (fun _ i => 1 - (intOf i).toNat)
  case atStart => exact ⟨0, Nat.zero_le _, rfl⟩
  case round =>
    obtain ⟨k, hk, rfl⟩ := hrel
    obtain rfl | rfl : k = 0 ∨ k = 1 := by omega
    · go_wp2_with (go_at_call 78; refine (need_ok _ _).mono ?_; rintro e w' ⟨rfl, rfl⟩)
      go_round
      case rel => exact ⟨1, by omega, by go_num⟩
      case measure => simp [intOf]
    · go_wp2
      go_end0
      exact ⟨rfl, rfl⟩
end Go.Proofs.Ytjbgdpbeabakiaa
