/- Contract of the law's own function 'more': counts with throws more. -/
import Derived.Test.YtknpkldmihhddaaL4
import Derived.Test.YtknpkldmihhddaaG2
namespace Go.Proofs.Ytknpkldmihhddaa
open Go.RowKit Go.Shelf
set_option linter.unusedVariables false
set_option linter.unusedSimpArgs false
/-- a row that reads as a list, as what is appended -/
theorem arr_news {w : World} {ad : Addr} {cs : List Value} (h : Arr w (some ad) cs) : ∀ (j : Nat) (u : Value), cs[j]? = some u → w.cell? (ad.add j) = some u := fun j u hj => by
  have hjl := (List.getElem?_eq_some_iff.1 hj).1
  rcases h with rfl | ⟨b, o, hA, hb, hc⟩
  · simp at hjl
  · obtain rfl : ad = ⟨b, o, none⟩ := by simpa using hA
    have : ((⟨b, o, none⟩ : Addr).add j) = ⟨b, o + j, none⟩ := by unfold Addr.add; by_cases h : j = 0 <;> simp [h]
    rw [this, hc j hjl, hj]
def MorePost (l os : List Int) (t : Nat) (w : World) (e : Ending) (w' : World) : Prop := ∃ A c, e = .returned (.slice A l.length c) ∧ Arr w' A (ints (bumps l os t)) ∧ Below w.heap.size w w'
/-- what is owned and not empty lies at the head of a block -/
theorem own_some {w : World} {base e n : Nat} {v : Value} {xs : List Value} (h : w.ownsRow base e 1 v n xs) (hn : 1 ≤ n) : ∃ g c, v = .slice (some ⟨g, 0, none⟩) n c ∧ base ≤ g ∧ g < w.heap.size := by
  rcases h.2 with ⟨_, h0⟩ | ⟨g, cap, cur, rfl, hg, hh, _⟩
  · omega
  · exact ⟨g, cap, rfl, hg, (Array.getElem?_eq_some_iff.1 hh).1⟩
theorem own_empty (W : World) (e : Nat) (base : Nat) (hb : base ≤ W.heap.size) : (W.alloc (.cells #[] e)).ownsRow base e 1 (.slice (some ⟨W.heap.size, 0, none⟩) 0 0) 0 [] := World.ownsRow_made W #[] 0 hb (by unfold maxLen; omega) (by simp)
theorem bump_at {l os : List Int} {t j : Nat} (hj : oI os l.length t = j) (hlt : j < l.length) : bumps l os (t + 1) = (bumps l os t).set j ((bumps l os t)[j]'(by rw [bumps_len]; exact hlt) + 1) := by
  rw [bumps, bump, hj]
  simp [bumps_len, hlt]
set_option maxRecDepth 100000 in
set_option maxHeartbeats 1000000 in
theorem more_c (A B : Option Addr) (c c' : Nat) (l os : List Int) (d : Int) (t : Nat) (w : World) (hr : Arr w A (ints l)) (hs : Arr w B (os.map (Value.int .u8))) (h1 : 1 ≤ l.length) (hl : l.length ≤ 60) (hm : os.length ≤ 200)
    (hos : ∀ i, 0 ≤ os.getD i 0 ∧ os.getD i 0 ≤ 255) (hd : d = t) (ht : t ≤ 100) (hc : Counts l) :
    Calls Try.prog 15 #[.slice A l.length c, .int .i64 d, .slice B os.length c'] w (MorePost l os t w) := by
  subst hd
  obtain ⟨i0, hi, hz0, hz1, hz2⟩ := info_parts Try.infoI
  obtain ⟨b, o, rfl, hb0, _⟩ := hr.int_at (i := 0) (by omega)
  have HBD := Aside.mk (fun k hk i hi => bumps_bd hc os (t := k) hk (i := i) hi)
  have HOS := Aside.mk hos
  clear hos hc
  go_enter Try.func15, Try.ntmps15
  go_wp2_with (at_builtin; go_loud (refine wpList_append_own_at _ rfl _ _ 41 rfl w.heap.size 3 i0 (.int .i64 0) 1 8 Try.underlying41 hi hz0 hz1 hz2 rfl (by decide) _ _ _ rfl (own_empty _ _ _ (Nat.le_refl _)) ⟨b, o, none⟩ l.length c (ints l) rfl (by simp [ints]) (arr_news (hr.al _)) (ints_oneCell .i64 l) (by unfold maxLen; omega) (by omega) (by simp) ?_); intro v' w1 hown' hgrow hnil hloc; have HO' := Aside.mk hown'; have HG' := Aside.mk hgrow; clear hown' hgrow hnil hloc)
  obtain ⟨g, cg, rfl, hg, hg2⟩ := own_some HO'.out (by omega)
  have HB1 : Below w.heap.size w w1 := Below.grown (Below.al (Below.refl _ _) _) HG'.out (by simp) (fun k hk => Nat.le_of_eq (Option.some.inj (show some w.heap.size = some k from hk)))
  have HO1 : Aside (w1.ownsRow w.heap.size 3 1 (.slice (some ⟨g, 0, none⟩) l.length cg) l.length (ints l)) := ⟨by simpa using HO'.out⟩
  simp only [Nat.zero_add]
  clear HO' HG' hb0
  go_wp2_with fail
  go_loopw [8, 9, 14] (fun x y i wr => ∃ k : Nat, k ≤ t ∧ i = .int .i64 k ∧ Below w.heap.size w wr ∧ Aside (wr.ownsRow w.heap.size 3 1 (.slice (some ⟨g, 0, none⟩) l.length cg) l.length (ints (bumps l os k)))) (fun _ _ i _ => t - (intOf i).toNat)
  case atStart => exact ⟨0, Nat.zero_le _, rfl, HB1, HO1⟩
  case round =>
    obtain ⟨k, hk, rfl, hB, HO⟩ := hrel
    have hbd := HBD.out k (by omega)
    by_cases hlt : k < t
    · have hj := oI_bd (os := os) (i := k) h1
      by_cases z : os.length = 0
      · have z1 : decide ((os.length : Int) > 0) = false := by simp [z]
        have z2 : decide (0 < os.length) = false := by simp [z]
        have HS := Lib.hid (bump_at (l := l) (os := os) (t := k) (j := 0) (by simp [oI, z]) (by omega))
        have hown0 : wr.cell? ⟨g, 0, none⟩ = some (.int .i64 ((bumps l os k)[0]'(by rw [bumps_len]; omega))) := by
          have := HO.out.cellAt 0 (by omega)
          rw [this]; simp [ints, bumps_len]
        have hfz0 := HO.out.frozenAt 0
        have HST := Aside.mk (HO.out.stored 0 (.int .i64 ((bumps l os k)[0]'(by rw [bumps_len]; omega) + 1)))
        have hv := hbd 0 (by rw [bumps_len]; omega)
        generalize ((bumps l os k)[0]'(by rw [bumps_len]; omega)) = x at *
        clear hbd hj z
        go_wp2
        go_roundw
        case rel => exact ⟨k + 1, by omega, by go_num, (by repeat (with_reducible first | exact Below.refl _ _ | assumption | refine Below.al ?_ _ | refine Below.dr ?_ | refine Below.drn ?_ _ | refine Below.sc ?_ (by simp <;> omega) _ | refine Below.th ?_ (by assumption))), ⟨by rw [HS.out, ← ints_set]; exact HST.out.1⟩⟩
        case measure => simp [intOf]; omega
      · have z1 : decide ((os.length : Int) > 0) = true := by simp; omega
        have z2 : decide (0 < os.length) = true := by simp; omega
        have hmod : k % os.length < os.length := Nat.mod_lt _ (by omega)
        obtain ⟨bo, oo, rfl, hbo, hcell⟩ := (hs.below hB).get1 (i := k % os.length) (by simpa using hmod)
        rw [List.getElem_map] at hcell
        have hov := HOS.out (k % os.length)
        have hoe : oI os l.length k = os[k % os.length] % l.length := by rw [oI, if_neg z]; simp [hmod]
        have hge : os.getD (k % os.length) 0 = os[k % os.length] := by simp [hmod]
        rw [hge] at hov
        rw [hoe] at hj
        generalize os[k % os.length] = y at *
        obtain ⟨j, hjj⟩ : ∃ j : Nat, y % (l.length : Int) = j := ⟨(y % (l.length : Int)).toNat, by omega⟩
        have hjl : j < l.length := by omega
        have HS := Lib.hid (bump_at (l := l) (os := os) (t := k) (j := j) (by rw [hoe, hjj]) hjl)
        have HJ := Lib.hid hjj
        have hown0 : wr.cell? ⟨g, j, none⟩ = some (.int .i64 ((bumps l os k)[j]'(by rw [bumps_len]; omega))) := by
          have := HO.out.cellAt j (by omega)
          rw [this]; simp [ints, bumps_len]
        have hfz0 := HO.out.frozenAt j
        have HST := Aside.mk (HO.out.stored j (.int .i64 ((bumps l os k)[j]'(by rw [bumps_len]; omega) + 1)))
        have hv := hbd j (by rw [bumps_len]; omega)
        generalize ((bumps l os k)[j]'(by rw [bumps_len]; omega)) = x at *
        clear hbd hge hoe z
        go_wp2
        go_roundw
        case rel => exact ⟨k + 1, by omega, by go_num, (by repeat (with_reducible first | exact Below.refl _ _ | assumption | refine Below.al ?_ _ | refine Below.dr ?_ | refine Below.drn ?_ _ | refine Below.sc ?_ (by simp <;> omega) _ | refine Below.th ?_ (by assumption))), ⟨by rw [HS.out, ← ints_set]; exact HST.out.1⟩⟩
        case measure => simp [intOf]; omega
    · obtain rfl : k = t := by omega
      have HA := Aside.mk (Arr.own HO.out)
      go_wp2
      go_ret
      exact ⟨some ⟨g, 0, none⟩, cg, rfl, HA.out, hB⟩
end Go.Proofs.Ytknpkldmihhddaa
