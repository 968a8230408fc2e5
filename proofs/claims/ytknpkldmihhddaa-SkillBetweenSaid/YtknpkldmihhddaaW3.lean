/- Contracts of the reference: Counts, sum, event, Chance. -/
import Derived.Test.YtknpkldmihhddaaS5
import Derived.Test.YtknpkldmihhddaaQ
import Derived.Deep.RegionWith
namespace Go.Proofs.Ytknpkldmihhddaa
open Go.RowKit Go.Shelf
set_option linter.unusedVariables false
set_option linter.unusedSimpArgs false

theorem RefCounts_c (A : Option Addr) (c : Nat) (l : List Int) (w : World) (hr : Arr w A (ints l)) (hl : l.length < 4294967296) :
    Calls Try.prog 46 #[.slice A l.length c] w fun e w' => e = .returned (.bool (countedB l)) ∧ w = w' := by
  go_enter Try.func46, Try.ntmps46
  go_wp2
  go_loop [3] (fun i => ∃ k : Nat, k ≤ l.length ∧ i = .int .i64 k ∧ Hid (NoBefore badCount l k)) (fun i => l.length - (intOf i).toNat)
  case atStart => exact ⟨0, Nat.zero_le _, rfl, NoBefore.zero _ _⟩
  case round =>
    obtain ⟨k, hk, rfl, HN⟩ := hrel
    by_cases hlt : k < l.length
    · obtain ⟨b, o, rfl, hb, hcell⟩ := hr.int_at hlt
      have K := Aside.mk (fun w => ref10_in_c l[k] 0 1000000 w)
      cases hp : badCount l[k]
      · have hin : inR l[k] 0 1000000 = true := by simpa [badCount] using hp
        rw [hin] at K
        clear hin
        go_wp2_with (go_at_call 30; refine (K.out _).mono ?_; rintro e w' ⟨rfl, rfl⟩)
        go_round
        case rel => exact ⟨k + 1, by omega, by go_num, HN.out.succ hlt hp⟩
        case measure => simp [intOf]; omega
      · have hin : inR l[k] 0 1000000 = false := by simpa [badCount] using hp
        rw [hin] at K
        clear hin
        go_wp2_with (go_at_call 30; refine (K.out _).mono ?_; rintro e w' ⟨rfl, rfl⟩)
        go_ret
        exact ⟨ret_bool (by have : l.any badCount = true := List.any_eq_true.2 ⟨_, List.getElem_mem hlt, hp⟩; simp [countedB, this]), rfl⟩
    · obtain rfl : k = l.length := by omega
      go_wp2_with (go_at_call 30; refine (ref10_in_c _ _ _ _).mono ?_; rintro e w' ⟨rfl, rfl⟩)
      go_ret
      exact ⟨ret_bool (by have h0 : l.any badCount = false := by rw [← idx_any, idx_none _ _ HN.out]; rfl
                          simp [countedB, h0]), rfl⟩
theorem RefSum_c (A : Option Addr) (c : Nat) (l : List Int) (w : World) (hr : Arr w A (ints l)) (hl : l.length ≤ 1000) (hc : Counts l) :
    Calls Try.prog 48 #[.slice A l.length c] w fun e w' => e = .returned (.int .i64 (sumI l)) ∧ w = w' := by
  go_enter Try.func48, Try.ntmps48
  go_wp2
  go_loop [3, 4] (fun s i => ∃ k : Nat, k ≤ l.length ∧ i = .int .i64 k ∧ s = .int .i64 (sumI (l.take k))) (fun _ i => l.length - (intOf i).toNat)
  case atStart => exact ⟨0, Nat.zero_le _, rfl, by simp [sumI]⟩
  case round =>
    obtain ⟨k, hk, rfl, rfl⟩ := hrel
    have hb := sumI_bd l hc k hk
    by_cases hlt : k < l.length
    · obtain ⟨b, o, rfl, hb0, hcell⟩ := hr.int_at hlt
      have hk2 := hc k hlt
      have HS := Lib.hid (sumI_snoc l k hlt)
      go_wp2
      go_round
      case rel => exact ⟨k + 1, by omega, by go_num, by rw [HS.out]⟩
      case measure => simp [intOf]; omega
    · obtain rfl : k = l.length := by omega
      go_wp2
      go_ret
      exact ⟨ret_int (by simp), rfl⟩
set_option maxHeartbeats 4000000 in
set_option maxRecDepth 100000 in
theorem RefEvent_c (A : Option Addr) (c : Nat) (l : List Int) (n : Int) (w : World) (hr : Arr w A (ints l)) (hl : l.length < 4294967296) (hn0 : 0 ≤ n) (hn : n ≤ 4294967296) :
    Calls Try.prog 47 #[.slice A l.length c, .int .i64 n] w fun e w' => e = .returned (.bool (eventB l n)) ∧ Below w.heap.size w w' := by
  go_enter Try.func47, Try.ntmps47
  go_wp2
  go_loopw [5] (fun i wr => ∃ k : Nat, k ≤ l.length ∧ i = .int .i64 k ∧ Below w.heap.size w wr ∧ Hid (∀ j, j < k → evBad l n j = false)) (fun i _ => l.length - (intOf i).toNat)
  case atStart => exact ⟨0, Nat.zero_le _, rfl, (by repeat (with_reducible first | exact Below.refl _ _ | assumption | refine Below.al ?_ _ | refine Below.dr ?_ | refine Below.drn ?_ _ | refine Below.sc ?_ (by simp <;> omega) _ | refine Below.th ?_ (by assumption))), fun j h => by omega⟩
  case round =>
    obtain ⟨k, hk, rfl, hB, HN⟩ := hrel
    by_cases hlt : k < l.length
    · obtain ⟨b, o, rfl, hb, hcell⟩ := (hr.below hB).int_at hlt
      have hg : l.getD k 0 = l[k] := by simp [hlt]
      have hgo : evBad l n k = false → ∀ j, j < k + 1 → evBad l n j = false := fun h j hj => by
        by_cases e : j = k
        · subst e; exact h
        · exact HN.out j (by omega)
      have HGO := Aside.mk hgo
      clear hgo
      have K := Aside.mk (fun w => still_q (ref10_in_c l[k] 0 (n - 1) w))
      cases e1 : inR l[k] 0 (n - 1)
      · have HB := Lib.hid (eventB_bad hlt (by unfold evBad; rw [hg, e1]; rfl))
        rw [e1] at K
        clear hg e1
        go_wp2
        go_quiet (first | (go_at_call 30; exact Calls.quiet_of_same (K.out _)))
        go_wp2
        go_ret
        exact ⟨ret_bool HB.out.symm, (by repeat (with_reducible first | exact Below.refl _ _ | assumption | refine Below.al ?_ _ | refine Below.dr ?_ | refine Below.drn ?_ _ | refine Below.sc ?_ (by simp <;> omega) _ | refine Below.th ?_ (by assumption)))⟩
      · rw [e1] at K
        cases k with
        | zero =>
          have HB : Aside (evBad l n 0 = false) := ⟨by unfold evBad; rw [hg, e1]; rfl⟩
          clear hg e1
          simp only [Nat.add_zero] at hcell
          go_wp2
          go_quiet (first | (go_at_call 30; exact Calls.quiet_of_same (K.out _)))
          go_wp2
          go_roundw
          case rel => exact ⟨1, by omega, by go_num, (by repeat (with_reducible first | exact Below.refl _ _ | assumption | refine Below.al ?_ _ | refine Below.dr ?_ | refine Below.drn ?_ _ | refine Below.sc ?_ (by simp <;> omega) _ | refine Below.th ?_ (by assumption))), HGO.out HB.out⟩
          case measure => simp [intOf]; omega
        | succ j =>
          obtain ⟨b', o', hA, hb', hcell'⟩ := (hr.below hB).int_at (i := j) (by omega)
          obtain ⟨rfl, rfl⟩ : b = b' ∧ o = o' := by simpa using hA
          have hg' : l.getD j 0 = l[j] := by simp [show j < l.length from by omega]
          by_cases e2 : l[j + 1] ≤ l[j]
          · have HB := Lib.hid (eventB_bad hlt (by unfold evBad; rw [hg, e1, show j + 1 - 1 = j from rfl, hg']; simp [e2]))
            clear hg hg' e1
            go_wp2
            go_quiet (first | (go_at_call 30; exact Calls.quiet_of_same (K.out _)))
            go_wp2
            go_ret
            exact ⟨ret_bool HB.out.symm, (by repeat (with_reducible first | exact Below.refl _ _ | assumption | refine Below.al ?_ _ | refine Below.dr ?_ | refine Below.drn ?_ _ | refine Below.sc ?_ (by simp <;> omega) _ | refine Below.th ?_ (by assumption)))⟩
          · have HB : Aside (evBad l n (j + 1) = false) := ⟨by unfold evBad; rw [hg, e1, show j + 1 - 1 = j from rfl, hg']; simp; omega⟩
            clear hg hg' e1
            go_wp2
            go_quiet (first | (go_at_call 30; exact Calls.quiet_of_same (K.out _)))
            go_wp2
            go_roundw
            case rel => exact ⟨j + 1 + 1, by omega, by go_num, (by repeat (with_reducible first | exact Below.refl _ _ | assumption | refine Below.al ?_ _ | refine Below.dr ?_ | refine Below.drn ?_ _ | refine Below.sc ?_ (by simp <;> omega) _ | refine Below.th ?_ (by assumption))), HGO.out HB.out⟩
            case measure => simp [intOf]; omega
    · obtain rfl : k = l.length := by omega
      go_wp2
      go_ret
      exact ⟨ret_bool (eventB_ok HN.out).symm, (by repeat (with_reducible first | exact Below.refl _ _ | assumption | refine Below.al ?_ _ | refine Below.dr ?_ | refine Below.drn ?_ _ | refine Below.sc ?_ (by simp <;> omega) _ | refine Below.th ?_ (by assumption)))⟩
def refChanceV (l s : List Int) (d : Int) : Value := if chanceOk l s d then .tuple #[.agg #[.int .i64 (lowC l s d), .int .i64 (sumI l + d), .int .i64 (highC l s d), .int .i64 (sumI l + d)], .int .i64 0] else .tuple #[.agg #[.int .i64 0, .int .i64 0, .int .i64 0, .int .i64 0], .int .i64 2]
set_option maxRecDepth 100000 in
set_option maxHeartbeats 4000000 in
theorem RefChance_c (A B : Option Addr) (c c' : Nat) (l s : List Int) (d : Int) (w : World) (hr : Arr w A (ints l)) (hs : Arr w B (ints s)) (hl : l.length < 4294967296) (hm : s.length < 4294967296) :
    Calls Try.prog 17 #[.slice A l.length c, .slice B s.length c', .int .i64 d] w fun e w' => e = .returned (refChanceV l s d) ∧ Below w.heap.size w w' := by
  have K1 := Aside.mk (fun w hr => RefCounts_c A c l w hr hl)
  have K2 := Aside.mk (fun w hs => RefEvent_c B c' s l.length w hs hm (by omega) (by omega))
  have K3 := Aside.mk (fun w => ref10_in_c d 1 1000 w)
  by_cases hok : chanceOk l s d = true
  · have HV := Lib.hid hok
    have h3 : countedB l = true ∧ eventB s l.length = true ∧ inR d 1 1000 = true := by simpa [chanceOk, and_assoc] using hok
    clear hok
    obtain ⟨e1, e2, e3⟩ := h3
    rw [e1] at K1; rw [e2] at K2; rw [e3] at K3
    obtain ⟨hc, n1, n2⟩ := Counts.of e1
    obtain ⟨d1, d2⟩ := inR_iff.1 e3
    have HB := Aside.mk (ownI_bd l s hc)
    have HE := Aside.mk (fun k hk => event_at e2 (k := k) hk)
    have HSUM := sumI_bd l hc l.length (Nat.le_refl _)
    rw [List.take_length] at HSUM
    obtain ⟨s1, s2⟩ := HSUM
    have K4 := Aside.mk (fun w hr => RefSum_c A c l w hr (by omega) hc)
    have HC := Aside.mk hc
    clear hc e1 e2 e3
    go_enter Try.func17, Try.ntmps17
    go_wp2_with fail
    refine (K1.out _ (Arr.al hr _)).mono ?_
    rintro e w' ⟨rfl, rfl⟩
    go_wp2_with fail
    refine (K2.out _ (Arr.al hs _)).mono ?_
    rintro e w' ⟨rfl, zb⟩
    obtain ⟨zc, zf⟩ := bcell zb; have zz := zb.size; (try simp at zz); (try have zq := fun b (h : b < w.heap.size) => (by omega : b < w'.heap.size)); (try have zq0 : w.heap.size < w'.heap.size := by omega); (try have zq1 : w.heap.size + 1 < w'.heap.size := by omega); (try have zq2 : w.heap.size + 2 < w'.heap.size := by omega); (try have zr0 : wr.heap.size < w'.heap.size := by omega); (try have zr1 : wr.heap.size + 1 < w'.heap.size := by omega)
    have hr1 := (Arr.al hr _).below zb
    have hs1 := (Arr.al hs _).below zb
    go_wp2_with (first | (go_at_call 30; refine (K3.out _).mono ?_; rintro e w' ⟨rfl, rfl⟩) | (go_at_call 48; refine (K4.out _ hr1).mono ?_; rintro e w' ⟨rfl, rfl⟩))
    go_loop [10, 11] (fun t i => ∃ k : Nat, k ≤ s.length ∧ i = .int .i64 k ∧ t = .int .i64 (ownI l (s.take k))) (fun _ i => s.length - (intOf i).toNat)
    case atStart => exact ⟨0, Nat.zero_le _, rfl, by simp [ownI]⟩
    case round =>
      obtain ⟨k, hk, rfl, rfl⟩ := hrel
      have hb := HB.out k hk
      by_cases hlt : k < s.length
      · obtain ⟨b, o, rfl, hb0, hcell⟩ := hs1.int_at hlt
        have he := HE.out k hlt
        obtain ⟨b', o', rfl, hb0', hcell'⟩ := hr1.int_at (i := s[k].toNat) (by omega)
        have HS : Hid (ownI l (s.take (k + 1)) = ownI l (s.take k) + l[s[k].toNat]) := by
          show _ = _
          rw [ownI_snoc l s k hlt]; simp [show s[k].toNat < l.length from by omega]
        have hk2 := HC.out s[k].toNat (by omega)
        go_wp2
        go_round
        case rel => exact ⟨k + 1, by omega, by go_num, by rw [HS.out]⟩
        case measure => simp [intOf]; omega
      · obtain rfl : k = s.length := by omega
        rw [List.take_length] at hb
        by_cases z0 : s.length = 0
        · have z1 : ((s.length : Int) == 0) = true := by simp [z0]
          have z2 : ((s.length : Int) == (l.length : Int)) = false := by simp; omega
          have z4 : (s.length == l.length) = false := by simp; omega
          have Z0 := Lib.hid z0
          clear z0
          go_wp2
          refine bodyPost_ret (v := .tuple #[.agg #[.int .i64 (ownI l s), .int .i64 (sumI l + d), .int .i64 0, .int .i64 (sumI l + d)], .int .i64 0]) (by simp [*, results, Try.results17, go_sem]) rfl ?_
          refine ⟨?_, (by repeat (with_reducible first | exact Below.refl _ _ | assumption | refine Below.al ?_ _ | refine Below.dr ?_ | refine Below.drn ?_ _ | refine Below.sc ?_ (by simp <;> omega) _ | refine Below.th ?_ (by assumption)))⟩
          rw [refChanceV, if_pos HV.out, lowC, if_pos Z0.out, highC, if_pos Z0.out]
        · have z1 : ((s.length : Int) == 0) = false := by simp; intro h; exact z0 (by simp [h])
          by_cases z2 : s.length = l.length
          · have z3 : ((s.length : Int) == (l.length : Int)) = true := by simp [z2]
            have z4 : (s.length == l.length) = true := by simp [z2]
            have Z2 := Lib.hid z2
            clear z2
            go_wp2
            refine bodyPost_ret (v := .tuple #[.agg #[.int .i64 (sumI l + d), .int .i64 (sumI l + d), .int .i64 (ownI l s + d), .int .i64 (sumI l + d)], .int .i64 0]) (by simp [*, results, Try.results17, go_sem]) rfl ?_
            refine ⟨?_, (by repeat (with_reducible first | exact Below.refl _ _ | assumption | refine Below.al ?_ _ | refine Below.dr ?_ | refine Below.drn ?_ _ | refine Below.sc ?_ (by simp <;> omega) _ | refine Below.th ?_ (by assumption)))⟩
            rw [refChanceV, if_pos HV.out, lowC, if_neg z0, if_pos Z2.out, highC, if_neg z0]
          · have z3 : ((s.length : Int) == (l.length : Int)) = false := by simp; omega
            have z4 : (s.length == l.length) = false := by simp; omega
            go_wp2
            refine bodyPost_ret (v := .tuple #[.agg #[.int .i64 (ownI l s), .int .i64 (sumI l + d), .int .i64 (ownI l s + d), .int .i64 (sumI l + d)], .int .i64 0]) (by simp [*, results, Try.results17, go_sem]) rfl ?_
            refine ⟨?_, (by repeat (with_reducible first | exact Below.refl _ _ | assumption | refine Below.al ?_ _ | refine Below.dr ?_ | refine Below.drn ?_ _ | refine Below.sc ?_ (by simp <;> omega) _ | refine Below.th ?_ (by assumption)))⟩
            rw [refChanceV, if_pos HV.out, lowC, if_neg z0, if_neg z2, highC, if_neg z0]
  · have h3 : countedB l = false ∨ (countedB l = true ∧ eventB s l.length = false) ∨ (countedB l = true ∧ eventB s l.length = true ∧ inR d 1 1000 = false) := by
      cases h1 : countedB l <;> cases h2 : eventB s l.length <;> cases h3 : inR d 1 1000 <;> simp [chanceOk, h1, h2, h3] at hok ⊢
    have HV := Lib.hid (show chanceOk l s d = false by simpa using hok)
    clear hok
    rcases h3 with h | ⟨h, h1⟩ | ⟨h, h1, h2⟩
    · rw [h] at K1
      clear h
      go_enter Try.func17, Try.ntmps17
      go_wp2_with (go_at_call 46; refine (K1.out _ (Arr.al hr _)).mono ?_; rintro e w' ⟨rfl, rfl⟩)
      refine bodyPost_ret (v := .tuple #[.agg #[.int .i64 0, .int .i64 0, .int .i64 0, .int .i64 0], .int .i64 2]) (by simp [*, results, Try.results17, go_sem]) rfl ?_
      exact ⟨by simp [refChanceV, HV.out], (by repeat (with_reducible first | exact Below.refl _ _ | assumption | refine Below.al ?_ _ | refine Below.dr ?_ | refine Below.drn ?_ _ | refine Below.sc ?_ (by simp <;> omega) _ | refine Below.th ?_ (by assumption)))⟩
    all_goals
      rw [h] at K1
      rw [h1] at K2
      try rw [h2] at K3
      clear h h1
      try clear h2
      go_enter Try.func17, Try.ntmps17
      go_wp2_with fail
      refine (K1.out _ (Arr.al hr _)).mono ?_
      rintro e w' ⟨rfl, rfl⟩
      go_wp2_with fail
      refine (K2.out _ (Arr.al hs _)).mono ?_
      rintro e w' ⟨rfl, zb⟩
      obtain ⟨zc, zf⟩ := bcell zb; have zz := zb.size; (try simp at zz); (try have zq := fun b (h : b < w.heap.size) => (by omega : b < w'.heap.size)); (try have zq0 : w.heap.size < w'.heap.size := by omega); (try have zq1 : w.heap.size + 1 < w'.heap.size := by omega); (try have zq2 : w.heap.size + 2 < w'.heap.size := by omega); (try have zr0 : wr.heap.size < w'.heap.size := by omega); (try have zr1 : wr.heap.size + 1 < w'.heap.size := by omega)
      go_wp2_with (go_at_call 30; refine (K3.out _).mono ?_; rintro e w' ⟨rfl, rfl⟩)
      refine bodyPost_ret (v := .tuple #[.agg #[.int .i64 0, .int .i64 0, .int .i64 0, .int .i64 0], .int .i64 2]) (by simp [*, results, Try.results17, go_sem]) rfl ?_
      exact ⟨by simp [refChanceV, HV.out], (by repeat (with_reducible first | exact Below.refl _ _ | assumption | refine Below.al ?_ _ | refine Below.dr ?_ | refine Below.drn ?_ _ | refine Below.sc ?_ (by simp <;> omega) _ | refine Below.th ?_ (by assumption)))⟩
end Go.Proofs.Ytknpkldmihhddaa
