/- Contracts of the reference: Counts, sum, event, Chance. -/
import Derived.Test.YtjbgdpbeabakiaaS5
import Derived.Test.YtjbgdpbeabakiaaQ
import Derived.Deep.RegionWith
namespace Go.Proofs.Ytjbgdpbeabakiaa
open Go.RowKit Go.Shelf
set_option linter.unusedVariables false
set_option linter.unusedSimpArgs false

theorem RefCounts_c (A : Option Addr) (c : Nat) (l : List Int) (w : World) (hr : Arr w A (ints l)) (hl : l.length < 4294967296) :
    Calls Try.prog 41 #[.slice A l.length c] w fun e w' => e = .returned (.bool (countedB l)) ∧ w = w' := by
  go_enter Try.func41, Try.ntmps41
  go_wp2
  go_loop [3] (fun i => ∃ k : Nat, k ≤ l.length ∧ i = .int .i64 k ∧ Hid (NoBefore badCount l k)) (fun i => l.length - (intOf i).toNat)
  case atStart => exact ⟨0, Nat.zero_le _, rfl, NoBefore.zero _ _⟩
  case round =>
    obtain ⟨k, hk, rfl, HN⟩ := hrel
    by_cases hlt : k < l.length
    · obtain ⟨b, o, rfl, hb, hcell⟩ := hr.int_at hlt
      have K := Aside.mk (fun w => ref10_in_c l[k] 0 1000000 w)
      cases hp : badCount l[k]
      · have hin : inR l[k] 0 1000000 = true := by simpa [badCount] using hp
        rw [hin] at K
        clear hin
        go_wp2_with (go_at_call 54; refine (K.out _).mono ?_; rintro e w' ⟨rfl, rfl⟩)
        go_round
        case rel => exact ⟨k + 1, by omega, by go_num, HN.out.succ hlt hp⟩
        case measure => simp [intOf]; omega
      · have hin : inR l[k] 0 1000000 = false := by simpa [badCount] using hp
        rw [hin] at K
        clear hin
        go_wp2_with (go_at_call 54; refine (K.out _).mono ?_; rintro e w' ⟨rfl, rfl⟩)
        go_ret
        exact ⟨ret_bool (by have : l.any badCount = true := List.any_eq_true.2 ⟨_, List.getElem_mem hlt, hp⟩; simp [countedB, this]), rfl⟩
    · obtain rfl : k = l.length := by omega
      go_wp2_with (go_at_call 54; refine (ref10_in_c _ _ _ _).mono ?_; rintro e w' ⟨rfl, rfl⟩)
      go_ret
      exact ⟨ret_bool (by have h0 : l.any badCount = false := by rw [← idx_any, idx_none _ _ HN.out]; rfl
                          simp [countedB, h0]), rfl⟩
def refChanceV (l s : List Int) (d : Int) : Value := if chanceOk l s d then .tuple #[.agg #[.int .i64 (lowC l s d), .int .i64 (sumI l + d), .int .i64 (highC l s d), .int .i64 (sumI l + d)], .int .i64 0] else .tuple #[.agg #[.int .i64 0, .int .i64 0, .int .i64 0, .int .i64 0], .int .i64 2]
end Go.Proofs.Ytjbgdpbeabakiaa
