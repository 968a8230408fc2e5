/- Contracts: Ints, Given and Better of the reference; odd of the law. -/
import Derived.Test.YtknpkldmihhddaaW4
namespace Go.Proofs.Ytknpkldmihhddaa
open Go.RowKit Go.Shelf
set_option linter.unusedVariables false
set_option linter.unusedSimpArgs false

/-- rows of one cell each -/
theorem Arr.get1 {w : World} {A : Option Addr} {cs : List Value} (h : Arr w A cs) {i : Nat} (hi : i < cs.length) : ∃ b o, A = some ⟨b, o, none⟩ ∧ b < w.heap.size ∧ w.cell? ⟨b, o + i, none⟩ = some cs[i] := by
  rcases h with h | ⟨b, o, hA, hb, hc⟩
  · subst h; simp at hi
  · exact ⟨b, o, hA, hb, by rw [hc i hi]; simp [hi]⟩
def sl3 (x : Option Addr × Nat × Nat) : Value := .slice x.1 x.2.1 x.2.2
def long (x : Option Addr × Nat × Nat) : Bool := decide (60 < x.2.1)
theorem odd_c (A : Option Addr) (c : Nat) (l : List (Option Addr × Nat × Nat)) (w : World) (hr : Arr w A (l.map sl3)) (hl : l.length < 4294967296) :
    Calls Try.prog 12 #[.slice A l.length c] w fun e w' => e = .returned (.bool (l.any long)) ∧ w = w' := by
  go_enter Try.func12, Try.ntmps12
  go_wp2
  go_loop [4, 7] (fun x i => ∃ k : Nat, k ≤ l.length ∧ i = .int .i64 k ∧ Hid (NoBefore long l k)) (fun _ i => l.length - (intOf i).toNat)
  case atStart => exact ⟨0, Nat.zero_le _, rfl, NoBefore.zero _ _⟩
  case round =>
    obtain ⟨k, hk, rfl, HN⟩ := hrel
    by_cases hlt : k < l.length
    · obtain ⟨b, o, rfl, hb, hcell⟩ := hr.get1 (i := k) (by simpa using hlt)
      rw [List.getElem_map] at hcell
      have hmem := List.getElem_mem hlt
      have hsucc := HN.out.succ hlt
      generalize l[k] = x at *
      obtain ⟨B, n, m⟩ := x
      simp only [sl3] at hcell
      by_cases h : 60 < n
      · have hp := Lib.hid (show long (B, n, m) = true by simp [long, h])
        go_wp2
        go_ret
        exact ⟨ret_bool (List.any_eq_true.2 ⟨_, hmem, hp.out⟩).symm, rfl⟩
      · have hp := Lib.hid (show long (B, n, m) = false by simp [long]; omega)
        go_wp2
        go_round
        case rel => exact ⟨k + 1, by omega, by go_num, hsucc hp.out⟩
        case measure => simp [intOf]; omega
    · obtain rfl : k = l.length := by omega
      go_wp2
      go_ret
      exact ⟨ret_bool (by rw [← idx_any, idx_none _ _ HN.out]; rfl), rfl⟩
theorem Ints_c (A B : Option Addr) (c c' : Nat) (l : List Int) (w : World) (hr : Arr w A (ints l)) (hs : Arr w B (ints l)) (hl : l.length < 4294967296) :
    Calls Try.prog 22 #[.slice A l.length c, .slice B l.length c'] w fun e w' => e = .returned (.bool true) ∧ Below w.heap.size w w' := by
  go_enter Try.func22, Try.ntmps22
  go_wp2
  go_loopw [5] (fun i wr => ∃ k : Nat, k ≤ l.length ∧ i = .int .i64 k ∧ ∃ n, wr = w.drewN n) (fun i _ => l.length - (intOf i).toNat)
  case atStart => exact ⟨0, Nat.zero_le _, rfl, 0, rfl⟩
  case round =>
    obtain ⟨k, hk, rfl, nd, rfl⟩ := hrel
    by_cases hlt : k < l.length
    · obtain ⟨b, o, rfl, hb, hcell⟩ := hr.int_at hlt
      obtain ⟨b', o', rfl, hb', hcell'⟩ := hs.int_at hlt
      go_wp2_with fail
      go_quiet (fail)
      go_wp2
      go_roundw
      case rel => exact ⟨k + 1, by omega, by go_num, _, rfl⟩
      case measure => simp [intOf]; omega
    · obtain rfl : k = l.length := by omega
      go_wp2
      go_ret
      exact ⟨rfl, (by repeat (with_reducible first | exact Below.refl _ _ | assumption | refine Below.al ?_ _ | refine Below.dr ?_ | refine Below.drn ?_ _ | refine Below.sc ?_ (by simp <;> omega) _ | refine Below.th ?_ (by assumption)))⟩
set_option maxHeartbeats 4000000 in
set_option maxRecDepth 100000 in
theorem RefGiven_c (A B : Option Addr) (c c' : Nat) (l s : List Int) (w : World) (hr : Arr w A (ints l)) (hs : Arr w B (ints s)) (hl : l.length < 4294967296) (hm : s.length < 4294967296) :
    Calls Try.prog 20 #[.slice A l.length c, .slice B s.length c'] w (GivenPost l s w) := by
  cases e1 : countedB l
  · have K1 := Aside.mk (fun w hr => RefCounts_c A c l w hr hl)
    rw [e1] at K1
    go_enter Try.func20, Try.ntmps20
    go_wp2_with (go_at_call 46; refine (K1.out _ hr).mono ?_; rintro e w' ⟨rfl, rfl⟩)
    go_ret2
    exact ⟨none, 0, by simp [givenL, givenOk, e1, eArg], by simp [givenL, givenOk, e1, ints, Arr.nil], (by repeat (with_reducible first | exact Below.refl _ _ | assumption | refine Below.al ?_ _ | refine Below.dr ?_ | refine Below.drn ?_ _ | refine Below.sc ?_ (by simp <;> omega) _ | refine Below.th ?_ (by assumption)))⟩
  · have K1 := Aside.mk (fun w hr => RefCounts_c A c l w hr hl)
    rw [e1] at K1
    have K2 := Aside.mk (fun w hs => RefEvent_c B c' s l.length w hs hm (by omega) (by omega))
    cases e2 : eventB s l.length
    · rw [e2] at K2
      go_enter Try.func20, Try.ntmps20
      go_wp2_with (first | (go_at_call 46; refine (K1.out _ hr).mono ?_; rintro e w' ⟨rfl, rfl⟩) | (go_at_call 47; refine (K2.out _ hs).mono ?_; rintro e w' ⟨rfl, zb⟩; obtain ⟨zc, zf⟩ := bcell zb; have zz := zb.size; (try simp at zz); (try have zq := fun b (h : b < w.heap.size) => (by omega : b < w'.heap.size)); (try have zq0 : w.heap.size < w'.heap.size := by omega); (try have zq1 : w.heap.size + 1 < w'.heap.size := by omega); (try have zq2 : w.heap.size + 2 < w'.heap.size := by omega); (try have zr0 : wr.heap.size < w'.heap.size := by omega); (try have zr1 : wr.heap.size + 1 < w'.heap.size := by omega)))
      go_ret2
      exact ⟨none, 0, by simp [givenL, givenOk, e2, eArg], by simp [givenL, givenOk, e2, ints, Arr.nil], (by repeat (with_reducible first | exact Below.refl _ _ | assumption | refine Below.al ?_ _ | refine Below.dr ?_ | refine Below.drn ?_ _ | refine Below.sc ?_ (by simp <;> omega) _ | refine Below.th ?_ (by assumption)))⟩
    · rw [e2] at K2
      obtain ⟨hc, n1, n2⟩ := Counts.of e1
      obtain ⟨i0, hi, hz0, hz1, hz2⟩ := info_parts Try.infoI
      have HE := Aside.mk (fun k hk => event_at e2 (k := k) hk)
      have hC := Aside.mk hc
      have HV := Lib.hid (show givenOk l s = true by simp [givenOk, e1, e2])
      clear hc e1 e2
      go_enter Try.func20, Try.ntmps20
      go_wp2_with (go_at_call 46; refine (K1.out _ hr).mono ?_; rintro e w' ⟨rfl, rfl⟩)
      refine (K2.out _ hs).mono ?_
      rintro e w' ⟨rfl, zb⟩
      obtain ⟨zc, zf⟩ := bcell zb; have zz := zb.size; (try simp at zz); (try have zq := fun b (h : b < w.heap.size) => (by omega : b < w'.heap.size)); (try have zq0 : w.heap.size < w'.heap.size := by omega); (try have zq1 : w.heap.size + 1 < w'.heap.size := by omega); (try have zq2 : w.heap.size + 2 < w'.heap.size := by omega); (try have zr0 : wr.heap.size < w'.heap.size := by omega); (try have zr1 : wr.heap.size + 1 < w'.heap.size := by omega)
      have hr1 := hr.below zb
      have hs1 := hs.below zb
      go_wp2_with (at_make; refine wpList_make_full _ rfl (.tmp 21) (.tmp 21) 41 rfl w'.heap.size 3 i0 (.int .i64 0) 1 Try.underlying41 hi hz0 hz1 .i64 .i64 l.length l.length l.length rfl rfl rfl rfl (by rw [hz2]; omega) (by unfold maxLen; omega) (Nat.le_refl _) ?_; intro w1 hown hgr; rw [made_ints] at hown; have HO := Aside.mk hown; have HG := Aside.mk hgr; clear hown hgr)
      go_loopw [8] (fun i wr => ∃ k : Nat, k ≤ s.length ∧ i = .int .i64 k ∧ Below w'.heap.size w' wr ∧ Aside (wr.ownsRow w'.heap.size 3 1 (.slice (some ⟨w'.heap.size, 0, none⟩) l.length l.length) l.length (ints (givenI l (s.take k))))) (fun i _ => s.length - (intOf i).toNat)
      case atStart => exact ⟨0, Nat.zero_le _, rfl, (Below.refl _ _).grown HG.out (Nat.le_refl _) (by simp), HO⟩
      case round =>
        obtain ⟨k, hk, rfl, hB, HO⟩ := hrel
        by_cases hlt : k < s.length
        · obtain ⟨b, o, rfl, hb0, hcell⟩ := (hs1.below hB).int_at hlt
          have he := HE.out k hlt
          have hj : s[k].toNat < l.length := by omega
          obtain ⟨b', o', rfl, hb0', hcell'⟩ := (hr1.below hB).int_at (i := s[k].toNat) hj
          have hlen := givenI_len l (s.take k)
          obtain ⟨x0, hown0⟩ : ∃ x, wr.cell? ⟨w'.heap.size, s[k].toNat, none⟩ = some (.int .i64 x) := ⟨(givenI l (s.take k))[s[k].toNat], by
            rw [HO.out.cellAt _ (by rw [Nat.mul_one]; exact hj)]; simp [ints, hlen, hj]⟩
          have hfz0 := HO.out.frozenAt s[k].toNat
          have HST := Aside.mk (HO.out.stored s[k].toNat (.int .i64 l[s[k].toNat]))
          have HS : Hid (givenI l (s.take (k + 1)) = (givenI l (s.take k)).set s[k].toNat l[s[k].toNat]) := by
            show _ = _
            rw [givenI_snoc l s k hlt]; simp [hj]
          clear hlen
          go_wp2
          go_region
          go_wp2
          go_roundw
          case rel => exact ⟨k + 1, by omega, by go_num, (by repeat (with_reducible first | exact Below.refl _ _ | assumption | refine Below.al ?_ _ | refine Below.dr ?_ | refine Below.drn ?_ _ | refine Below.sc ?_ (by simp <;> omega) _ | refine Below.th ?_ (by assumption))), ⟨by rw [HS.out, ← ints_set]; exact HST.out.1⟩⟩
          case measure => simp [intOf]; omega
        · obtain rfl : k = s.length := by omega
          have HO' := HO.out
          rw [List.take_length] at HO'
          have hlen := Lib.hid (givenI_len l s)
          have hgl := Lib.hid (show givenL l s = givenI l s from by simp [givenL, HV.out])
          have HA := Aside.mk (Arr.own HO')
          clear HO'
          go_wp2
          go_ret2
          exact ⟨some ⟨w'.heap.size, 0, none⟩, l.length, by rw [hgl.out, hlen.out]; simp [eArg, HV.out], by rw [hgl.out]; exact HA.out, Below.th zb hB⟩
end Go.Proofs.Ytknpkldmihhddaa
