/- Contracts of searches by a predicate: slices.IndexFunc, ContainsFunc at the predicates of counts, values and brooms. -/
import Derived.Test.YtjbgdpbeabakiaaB2
namespace Go.Proofs.Ytjbgdpbeabakiaa
open Go.RowKit
set_option linter.unusedVariables false
set_option linter.unusedSimpArgs false

def badCount (n : Int) : Bool := !inR n 0 1000000
def badValue (n : Int) : Bool := !inR n (-68719476736) 68719476736
def badBroom (f t g : Int) : Bool := !inR f 0 t || decide (6000 < t) || !inR g 0 1000
theorem counted1_c (n : Int) (w : World) : Calls Try.prog 62 #[.int .i64 n] w fun e w' => e = .returned (.bool (badCount n)) ∧ w = w' := by
  go_enter Try.func62, Try.ntmps62
  go_wp2_with (go_at_call 60; refine (skill_within_c _ _ _ _).mono ?_; rintro e w' ⟨rfl, rfl⟩)
  go_ret
  exact ⟨rfl, rfl⟩
theorem Mean1_c (n : Int) (w : World) : Calls Try.prog 63 #[.int .i64 n] w fun e w' => e = .returned (.bool (badValue n)) ∧ w = w' := by
  go_enter Try.func63, Try.ntmps63
  go_wp2_with (go_at_call 64; refine (skill_withinF_c _ _ _ _).mono ?_; rintro e w' ⟨rfl, rfl⟩)
  go_ret
  exact ⟨rfl, rfl⟩
set_option maxHeartbeats 400000 in
theorem IndexCount_c (A : Option Addr) (c : Nat) (l : List Int) (w : World) (hr : Arr w A (ints l)) (hl : l.length < 4294967296) :
    Calls Try.prog 69 #[.slice A l.length c, .func (.func 62) #[] #[]] w fun e w' => e = .returned (.int .i64 (idx badCount l)) ∧ w = w' := by
  go_enter Try.func69, Try.ntmps69
  go_wp2
  go_loop [5, 8] (fun a i => ∃ k : Nat, k ≤ l.length ∧ i = .int .i64 k ∧ Hid (NoBefore badCount l k)) (fun _ i => l.length - (intOf i).toNat)
  case atStart => exact ⟨0, Nat.zero_le _, rfl, NoBefore.zero _ _⟩
  case round =>
    obtain ⟨k, hk, rfl, HN⟩ := hrel
    by_cases hlt : k < l.length
    · obtain ⟨b, o, rfl, hb, hcell⟩ := hr.int_at hlt
      cases hp : badCount l[k]
      · go_wp2_with (go_at_call 62; refine (counted1_c _ _).mono ?_; rintro e w' ⟨rfl, rfl⟩)
        go_round
        case rel => exact ⟨k + 1, by omega, by go_num, HN.out.succ hlt hp⟩
        case measure => simp [intOf]; omega
      · go_wp2_with (go_at_call 62; refine (counted1_c _ _).mono ?_; rintro e w' ⟨rfl, rfl⟩)
        go_ret
        exact ⟨ret_int (idx_hit _ _ _ hlt HN.out hp).symm, rfl⟩
    · obtain rfl : k = l.length := by omega
      go_wp2
      go_ret
      exact ⟨ret_int (idx_none _ _ HN.out).symm, rfl⟩
theorem ContainsCount_c (A : Option Addr) (c : Nat) (l : List Int) (w : World) (hr : Arr w A (ints l)) (hl : l.length < 4294967296) :
    Calls Try.prog 61 #[.slice A l.length c, .func (.func 62) #[] #[]] w fun e w' => e = .returned (.bool (l.any badCount)) ∧ w = w' := by
  go_enter Try.func61, Try.ntmps61
  go_wp2_with (go_at_call 69; refine (IndexCount_c _ _ _ _ hr hl).mono ?_; rintro e w' ⟨rfl, rfl⟩)
  go_ret
  exact ⟨ret_bool (by rw [← idx_any]), rfl⟩
set_option maxHeartbeats 400000 in
theorem IndexValue_c (A : Option Addr) (c : Nat) (l : List Int) (w : World) (hr : Arr w A (ints l)) (hl : l.length < 4294967296) :
    Calls Try.prog 70 #[.slice A l.length c, .func (.func 63) #[] #[]] w fun e w' => e = .returned (.int .i64 (idx badValue l)) ∧ w = w' := by
  go_enter Try.func70, Try.ntmps70
  go_wp2
  go_loop [5, 8] (fun a i => ∃ k : Nat, k ≤ l.length ∧ i = .int .i64 k ∧ Hid (NoBefore badValue l k)) (fun _ i => l.length - (intOf i).toNat)
  case atStart => exact ⟨0, Nat.zero_le _, rfl, NoBefore.zero _ _⟩
  case round =>
    obtain ⟨k, hk, rfl, HN⟩ := hrel
    by_cases hlt : k < l.length
    · obtain ⟨b, o, rfl, hb, hcell⟩ := hr.int_at hlt
      cases hp : badValue l[k]
      · go_wp2_with (go_at_call 63; refine (Mean1_c _ _).mono ?_; rintro e w' ⟨rfl, rfl⟩)
        go_round
        case rel => exact ⟨k + 1, by omega, by go_num, HN.out.succ hlt hp⟩
        case measure => simp [intOf]; omega
      · go_wp2_with (go_at_call 63; refine (Mean1_c _ _).mono ?_; rintro e w' ⟨rfl, rfl⟩)
        go_ret
        exact ⟨ret_int (idx_hit _ _ _ hlt HN.out hp).symm, rfl⟩
    · obtain rfl : k = l.length := by omega
      go_wp2
      go_ret
      exact ⟨ret_int (idx_none _ _ HN.out).symm, rfl⟩
theorem ContainsValue_c (A : Option Addr) (c : Nat) (l : List Int) (w : World) (hr : Arr w A (ints l)) (hl : l.length < 4294967296) :
    Calls Try.prog 65 #[.slice A l.length c, .func (.func 63) #[] #[]] w fun e w' => e = .returned (.bool (l.any badValue)) ∧ w = w' := by
  go_enter Try.func65, Try.ntmps65
  go_wp2_with (go_at_call 70; refine (IndexValue_c _ _ _ _ hr hl).mono ?_; rintro e w' ⟨rfl, rfl⟩)
  go_ret
  exact ⟨ret_bool (by rw [← idx_any]), rfl⟩
end Go.Proofs.Ytjbgdpbeabakiaa
