/- Contract of the reference: Better. -/
import Derived.Test.YtknpkldmihhddaaW5
namespace Go.Proofs.Ytknpkldmihhddaa
open Go.RowKit Go.Shelf
set_option linter.unusedVariables false
set_option linter.unusedSimpArgs false

theorem sumI_from (l : List Int) : ∀ z : Int, l.foldl (· + ·) z = z + sumI l := by
  induction l with
  | nil => intro z; simp [sumI]
  | cons x l ih => intro z; have a := ih (z + x); have b := ih (0 + x); simp only [sumI, List.foldl_cons] at *; omega
theorem sumI_append (a b : List Int) : sumI (a ++ b) = sumI a + sumI b := by
  unfold sumI; rw [List.foldl_append, sumI_from]; rfl
theorem sumI_split (a : List Int) (k : Nat) : sumI a = sumI (a.take k) + sumI (a.drop k) := by
  rw [← sumI_append, List.take_append_drop]
theorem moreI_sum (a b : List Int) : ∀ k, k ≤ a.length → k ≤ b.length → moreI a b k = sumI (b.take k) - sumI (a.take k)
  | 0, _, _ => by simp [moreI, sumI]
  | k + 1, ha, hb => by
    have ih := moreI_sum a b k (by omega) (by omega)
    rw [moreI, ih, sumI_snoc a k (by omega), sumI_snoc b k (by omega)]
    simp [show k < a.length from by omega, show k < b.length from by omega]; omega
theorem better_ne {a b : List Int} (hl : a.length = b.length) (h : ¬ sumI a = sumI b) : betterB a b = false := by
  have e := moreI_sum a b a.length (Nat.le_refl _) (by omega)
  rw [List.take_length, show b.take a.length = b from by rw [hl]; exact List.take_length] at e
  simp [betterB, e]; intro _; omega
theorem better_fail {a b : List Int} (hl : a.length = b.length) (h : sumI a = sumI b) {k : Nat} (hk : k < a.length) (hf : sumI (a.drop k) < sumI (b.drop k)) : betterB a b = false := by
  have e := moreI_sum a b k (by omega) (by omega)
  have s1 := sumI_split a k
  have s2 := sumI_split b k
  have hneg : moreI a b k < 0 := by omega
  cases k with
  | zero => simp [moreI] at hneg
  | succ j =>
    rw [Bool.eq_false_iff]
    intro hb
    unfold betterB at hb
    rw [Bool.and_eq_true] at hb
    have := List.all_eq_true.1 hb.1 j (List.mem_range.2 (by omega))
    simp at this; omega
theorem better_all {a b : List Int} (hl : a.length = b.length) (h : sumI a = sumI b) (hf : ∀ j, j < a.length → sumI (b.drop j) ≤ sumI (a.drop j)) : betterB a b = true := by
  have key : ∀ k, k ≤ a.length → 0 ≤ moreI a b k := fun k hk => by
    have e := moreI_sum a b k (by omega) (by omega)
    have s1 := sumI_split a k
    have s2 := sumI_split b k
    by_cases hlt : k < a.length
    · have := hf k hlt; omega
    · obtain rfl : k = a.length := by omega
      rw [List.take_length, show b.take a.length = b from by rw [hl]; exact List.take_length] at e
      omega
  have e := moreI_sum a b a.length (Nat.le_refl _) (by omega)
  rw [List.take_length, show b.take a.length = b from by rw [hl]; exact List.take_length] at e
  unfold betterB
  rw [Bool.and_eq_true]
  exact ⟨List.all_eq_true.2 fun k hk => by simpa using key (k + 1) (by have := List.mem_range.1 hk; omega), by simp [e]; omega⟩
theorem Arr.drop {w : World} {b o : Nat} {l : List Int} (h : Arr w (some ⟨b, o, none⟩) (ints l)) (k : Nat) : Arr w (some ⟨b, o + k, none⟩) (ints (l.drop k)) := by
  rcases h with h | ⟨b', o', hA, hb, hc⟩
  · have : l = [] := by cases l with | nil => rfl | cons _ _ => simp [ints] at h
    subst this; exact .inl (by simp [ints])
  · obtain ⟨rfl, rfl⟩ : b = b' ∧ o = o' := by simpa using hA
    refine .inr ⟨_, _, rfl, hb, fun i hi => ?_⟩
    have hi' : k + i < (ints l).length := by simp [ints] at hi ⊢; omega
    rw [Nat.add_assoc, hc _ hi']
    simp [ints]
theorem Counts.drop {l : List Int} (h : Counts l) (k : Nat) : Counts (l.drop k) := fun i hi => by
  have := h (k + i) (by simp at hi; omega)
  simpa using this
set_option maxHeartbeats 4000000 in
set_option maxRecDepth 100000 in
theorem RefBetter_c (A B : Option Addr) (c c' : Nat) (a b : List Int) (w : World) (hr : Arr w A (ints a)) (hs : Arr w B (ints b)) (hl : a.length < 4294967296) (hm : b.length < 4294967296) (hcap : a.length ≤ c) (hcap' : b.length ≤ c') :
    Calls Try.prog 21 #[.slice A a.length c, .slice B b.length c'] w fun e w' => e = .returned (betterV a b) ∧ Below w.heap.size w w' := by
  have K1 := Aside.mk (fun w hr => RefCounts_c A c a w hr hl)
  have K2 := Aside.mk (fun w hs => RefCounts_c B c' b w hs hm)
  by_cases hok : betterOk a b = true
  · have h3 : (countedB a = true ∧ countedB b = true) ∧ a.length = b.length := by simpa [betterOk] using hok
    have HV := Lib.hid hok
    clear hok
    obtain ⟨⟨e1, e2⟩, e3⟩ := h3
    rw [e1] at K1; rw [e2] at K2
    obtain ⟨ha, a1, a2⟩ := Counts.of e1
    obtain ⟨hb, b1, b2⟩ := Counts.of e2
    have n1 : ((a.length : Int) != (b.length : Int)) = false := by simp; omega
    have n1' : (a.length != b.length) = false := by simp; omega
    have K3 := Aside.mk (fun w hr => RefSum_c A c a w hr (by omega) ha)
    have K4 := Aside.mk (fun w hs => RefSum_c B c' b w hs (by omega) hb)
    have H3 := Lib.hid e3
    clear e1 e2 e3
    by_cases hsum : sumI a = sumI b
    · have HSUM := Lib.hid hsum
      have n2 : (sumI a != sumI b) = false := by simp [hsum]
      obtain ⟨p0, o0, rfl, hp0, _⟩ := hr.int_at (i := 0) (by omega)
      obtain ⟨p1, o1, rfl, hp1, _⟩ := hs.int_at (i := 0) (by omega)
      have K5 : Aside (∀ w, Arr w (some ⟨p0, o0, none⟩) (ints a) → ∀ k cc, k ≤ a.length → Calls Try.prog 48 #[.slice (some ⟨p0, o0 + k, none⟩) (a.length - k) cc] w fun e w' => e = .returned (.int .i64 (sumI (a.drop k))) ∧ w' = w) := ⟨fun w hr k cc hk => by have := still_q (RefSum_c (some ⟨p0, o0 + k, none⟩) cc (a.drop k) w (hr.drop k) (by simp; omega) (ha.drop k)); rw [List.length_drop] at this; exact this⟩
      have K6 : Aside (∀ w, Arr w (some ⟨p1, o1, none⟩) (ints b) → ∀ k cc, k ≤ b.length → Calls Try.prog 48 #[.slice (some ⟨p1, o1 + k, none⟩) (b.length - k) cc] w fun e w' => e = .returned (.int .i64 (sumI (b.drop k))) ∧ w' = w) := ⟨fun w hr k cc hk => by have := still_q (RefSum_c (some ⟨p1, o1 + k, none⟩) cc (b.drop k) w (hr.drop k) (by simp; omega) (hb.drop k)); rw [List.length_drop] at this; exact this⟩
      clear ha hb hsum
      go_enter Try.func21, Try.ntmps21
      go_wp2_with fail
      refine (K1.out _ hr).mono ?_
      rintro e w' ⟨rfl, rfl⟩
      go_wp2_with fail
      refine (K2.out _ hs).mono ?_
      rintro e w' ⟨rfl, rfl⟩
      go_wp2_with fail
      refine (K3.out _ hr).mono ?_
      rintro e w' ⟨rfl, rfl⟩
      go_wp2_with fail
      refine (K4.out _ hs).mono ?_
      rintro e w' ⟨rfl, rfl⟩
      go_wp2_with fail
      go_loopw [8] (fun i wr => ∃ k : Nat, k ≤ a.length ∧ i = .int .i64 k ∧ Below w.heap.size w wr ∧ Hid (∀ j, j < k → sumI (b.drop j) ≤ sumI (a.drop j))) (fun i _ => a.length - (intOf i).toNat)
      case atStart => exact ⟨0, Nat.zero_le _, rfl, (by repeat (with_reducible first | exact Below.refl _ _ | assumption | refine Below.al ?_ _ | refine Below.dr ?_ | refine Below.drn ?_ _ | refine Below.sc ?_ (by simp <;> omega) _ | refine Below.th ?_ (by assumption))), fun j h => by omega⟩
      case round =>
        obtain ⟨k, hk, rfl, hB, HN⟩ := hrel
        by_cases hlt : k < a.length
        · have hlt' : k < b.length := by have := H3.out; omega
          have ck : ¬ c = k := by omega
          have ck' : ¬ c' = k := by have := H3.out; omega
          have Q5 := Aside.mk (fun n => K5.out (wr.drewN n) (hr.below ((by repeat (with_reducible first | exact Below.refl _ _ | assumption | refine Below.al ?_ _ | refine Below.dr ?_ | refine Below.drn ?_ _ | refine Below.sc ?_ (by simp <;> omega) _ | refine Below.th ?_ (by assumption))))) k (c - k) (by omega))
          have Q6 := Aside.mk (fun n => K6.out (wr.drewN n) (hs.below ((by repeat (with_reducible first | exact Below.refl _ _ | assumption | refine Below.al ?_ _ | refine Below.dr ?_ | refine Below.drn ?_ _ | refine Below.sc ?_ (by simp <;> omega) _ | refine Below.th ?_ (by assumption))))) k (c' - k) (by omega))
          by_cases hbad : sumI (a.drop k) < sumI (b.drop k)
          · go_wp2_with fail
            go_quiet (first | (go_at_call_of 48 (some (Addr.mk p0 (o0 + k) none)); exact Calls.quiet_of_same (Q5.out _)) | (go_at_call_of 48 (some (Addr.mk p1 (o1 + k) none)); exact Calls.quiet_of_same (Q6.out _)))
            go_wp2
            go_ret2
            exact ⟨by rw [betterV, if_pos HV.out, better_fail H3.out HSUM.out hlt hbad] <;> rfl, (by repeat (with_reducible first | exact Below.refl _ _ | assumption | refine Below.al ?_ _ | refine Below.dr ?_ | refine Below.drn ?_ _ | refine Below.sc ?_ (by simp <;> omega) _ | refine Below.th ?_ (by assumption)))⟩
          · go_wp2_with fail
            go_quiet (first | (go_at_call_of 48 (some (Addr.mk p0 (o0 + k) none)); exact Calls.quiet_of_same (Q5.out _)) | (go_at_call_of 48 (some (Addr.mk p1 (o1 + k) none)); exact Calls.quiet_of_same (Q6.out _)))
            go_wp2
            go_roundw
            case rel => exact ⟨k + 1, by omega, by go_num, (by repeat (with_reducible first | exact Below.refl _ _ | assumption | refine Below.al ?_ _ | refine Below.dr ?_ | refine Below.drn ?_ _ | refine Below.sc ?_ (by simp <;> omega) _ | refine Below.th ?_ (by assumption))), fun j hj => by
              by_cases e : j = k
              · subst e; omega
              · exact HN.out j (by omega)⟩
            case measure => simp [intOf]; omega
        · obtain rfl : k = a.length := by omega
          go_wp2
          go_ret2
          exact ⟨by rw [betterV, if_pos HV.out, better_all H3.out HSUM.out HN.out] <;> rfl, (by repeat (with_reducible first | exact Below.refl _ _ | assumption | refine Below.al ?_ _ | refine Below.dr ?_ | refine Below.drn ?_ _ | refine Below.sc ?_ (by simp <;> omega) _ | refine Below.th ?_ (by assumption)))⟩
    · have HSUM := Lib.hid hsum
      have n2 : (sumI a != sumI b) = true := by simp [hsum]
      clear ha hb hsum
      go_enter Try.func21, Try.ntmps21
      go_wp2_with fail
      refine (K1.out _ hr).mono ?_
      rintro e w' ⟨rfl, rfl⟩
      go_wp2_with fail
      refine (K2.out _ hs).mono ?_
      rintro e w' ⟨rfl, rfl⟩
      go_wp2_with fail
      refine (K3.out _ hr).mono ?_
      rintro e w' ⟨rfl, rfl⟩
      go_wp2_with fail
      refine (K4.out _ hs).mono ?_
      rintro e w' ⟨rfl, rfl⟩
      go_wp2
      go_ret2
      exact ⟨by rw [betterV, if_pos HV.out, better_ne H3.out HSUM.out] <;> rfl, (by repeat (with_reducible first | exact Below.refl _ _ | assumption | refine Below.al ?_ _ | refine Below.dr ?_ | refine Below.drn ?_ _ | refine Below.sc ?_ (by simp <;> omega) _ | refine Below.th ?_ (by assumption)))⟩
  · have HV := Lib.hid hok
    cases e1 : countedB a
    · rw [e1] at K1
      clear hok
      go_enter Try.func21, Try.ntmps21
      go_wp2_with fail
      refine (K1.out _ hr).mono ?_
      rintro e w' ⟨rfl, rfl⟩
      go_wp2_with fail
      refine (K2.out _ hs).mono ?_
      rintro e w' ⟨rfl, rfl⟩
      go_wp2
      go_ret2
      exact ⟨by rw [betterV, if_neg HV.out] <;> rfl, (by repeat (with_reducible first | exact Below.refl _ _ | assumption | refine Below.al ?_ _ | refine Below.dr ?_ | refine Below.drn ?_ _ | refine Below.sc ?_ (by simp <;> omega) _ | refine Below.th ?_ (by assumption)))⟩
    · rw [e1] at K1
      cases e2 : countedB b
      · rw [e2] at K2
        clear hok
        go_enter Try.func21, Try.ntmps21
        go_wp2_with fail
        refine (K1.out _ hr).mono ?_
        rintro e w' ⟨rfl, rfl⟩
        go_wp2_with fail
        refine (K2.out _ hs).mono ?_
        rintro e w' ⟨rfl, rfl⟩
        go_wp2
        go_ret2
        exact ⟨by rw [betterV, if_neg HV.out] <;> rfl, (by repeat (with_reducible first | exact Below.refl _ _ | assumption | refine Below.al ?_ _ | refine Below.dr ?_ | refine Below.drn ?_ _ | refine Below.sc ?_ (by simp <;> omega) _ | refine Below.th ?_ (by assumption)))⟩
      · rw [e2] at K2
        have e3 : ¬ a.length = b.length := by simpa [betterOk, e1, e2] using hok
        have n1 : ((a.length : Int) != (b.length : Int)) = true := by simp; omega
        have n1' : (a.length != b.length) = true := by simp; omega
        clear hok
        go_enter Try.func21, Try.ntmps21
        go_wp2_with fail
        refine (K1.out _ hr).mono ?_
        rintro e w' ⟨rfl, rfl⟩
        go_wp2_with fail
        refine (K2.out _ hs).mono ?_
        rintro e w' ⟨rfl, rfl⟩
        go_wp2
        go_ret2
        exact ⟨by rw [betterV, if_neg HV.out] <;> rfl, (by repeat (with_reducible first | exact Below.refl _ _ | assumption | refine Below.al ?_ _ | refine Below.dr ?_ | refine Below.drn ?_ _ | refine Below.sc ?_ (by simp <;> omega) _ | refine Below.th ?_ (by assumption)))⟩
end Go.Proofs.Ytknpkldmihhddaa
