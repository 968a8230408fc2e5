/- Contracts of skill.Given, Better. -/
import Derived.Test.YtjbgdpbeabakiaaS4
import Derived.Maps.AppendAt
namespace Go.Proofs.Ytjbgdpbeabakiaa
open Go.RowKit Go.Shelf
set_option linter.unusedVariables false
set_option linter.unusedSimpArgs false

theorem Try.infoI : (Try.prog.info? 3).map (fun i => (i.zero, i.size, i.bytes)) = some (some (.int .i64 0), 1, 8) := by kernel_rfl
theorem made_ints (n : Nat) : (madeCells (Value.int .i64 0).cells (n * 1)).toList = ints (List.replicate n 0) := by
  apply List.ext_getElem
  · simp [madeCells, ints]
  · intro i h1 h2
    simp [madeCells, ints, Value.cells, Nat.mod_one]
theorem Arr.of_own {w : World} {base e : Nat} {v : Value} {n : Nat} {xs : List Value} (h : w.ownsRow base e 1 v n xs) : ∃ A c, v = .slice A n c ∧ Arr w A xs := by
  have hl := h.1
  rcases h.2 with ⟨rfl, rfl⟩ | ⟨g, cap, cur, rfl, hg, hh, _, _, _, ht⟩
  · exact ⟨none, 0, rfl, .inl (List.length_eq_zero_iff.1 (by simpa using hl))⟩
  · refine ⟨_, cap, rfl, .inr ⟨g, 0, rfl, (Array.getElem?_eq_some_iff.1 hh).1, fun i hi => ?_⟩⟩
    rw [Nat.zero_add]
    exact h.cellAt i (by rw [← hl]; exact hi)
theorem Arr.own {w : World} {base e : Nat} {A : Option Addr} {c n : Nat} {xs : List Value} (h : w.ownsRow base e 1 (.slice A n c) n xs) : Arr w A xs := by
  obtain ⟨A', c', hv, ha⟩ := Arr.of_own h
  have e : A = A' := by injection hv
  rw [e]; exact ha
theorem ints_set (l : List Int) (i : Nat) (x : Int) : (ints l).set i (.int .i64 x) = ints (l.set i x) := by simp [ints, List.map_set]
def givenI (l s : List Int) : List Int := s.foldl (fun o i => o.set i.toNat (l.getD i.toNat 0)) (List.replicate l.length 0)
theorem givenI_snoc (l s : List Int) (k : Nat) (hk : k < s.length) : givenI l (s.take (k + 1)) = (givenI l (s.take k)).set s[k].toNat (l.getD s[k].toNat 0) := foldl_snoc _ _ _ _ hk
theorem givenI_len (l s : List Int) : (givenI l s).length = l.length := by
  unfold givenI
  suffices h : ∀ o : List Int, (s.foldl (fun o i => o.set i.toNat (l.getD i.toNat 0)) o).length = o.length by rw [h]; simp
  induction s with
  | nil => intro o; rfl
  | cons x s ih => intro o; rw [List.foldl_cons, ih, List.length_set]
def givenOk (l s : List Int) : Bool := countedB l && eventB s l.length
def givenL (l s : List Int) : List Int := if givenOk l s then givenI l s else []
def GivenPost (l s : List Int) (w : World) (e : Ending) (w' : World) : Prop :=
  ∃ A c, e = .returned (.tuple #[.slice A (givenL l s).length c, .int .i64 (eArg (givenOk l s))]) ∧ Arr w' A (ints (givenL l s)) ∧ Below w.heap.size w w'
set_option maxHeartbeats 1000000 in
theorem Given_c (A B : Option Addr) (c c' : Nat) (l s : List Int) (w : World) (hr : Arr w A (ints l)) (hs : Arr w B (ints s)) (hl : l.length < 4294967296) (hm : s.length < 4294967296) :
    Calls Try.prog 40 #[.slice A l.length c, .slice B s.length c'] w (GivenPost l s w) := by
  cases e1 : countedB l
  · go_enter Try.func40, Try.ntmps40
    go_wp2_with (go_at_call 52; refine (counted_c _ _ _ _ hr hl).mono ?_; rintro e w' ⟨rfl, rfl⟩)
    go_ret2
    exact ⟨none, 0, by simp [givenL, givenOk, e1, eArg], by simp [givenL, givenOk, e1, ints, Arr.nil], (by repeat (with_reducible first | exact Below.refl _ _ | assumption | refine Below.al ?_ _ | refine Below.dr ?_ | refine Below.drn ?_ _ | refine Below.sc ?_ (by simp <;> omega) _ | refine Below.th ?_ (by assumption)))⟩
  · cases e2 : eventB s l.length
    · go_enter Try.func40, Try.ntmps40
      go_wp2_with (first | (go_at_call 52; refine (counted_c _ _ _ _ hr hl).mono ?_; rintro e w' ⟨rfl, rfl⟩) | (go_at_call 53; refine (event_c _ _ _ _ _ hs hm (by omega) (by omega)).mono ?_; rintro e w' ⟨rfl, rfl⟩))
      go_ret2
      exact ⟨none, 0, by simp [givenL, givenOk, e2, eArg], by simp [givenL, givenOk, e2, ints, Arr.nil], (by repeat (with_reducible first | exact Below.refl _ _ | assumption | refine Below.al ?_ _ | refine Below.dr ?_ | refine Below.drn ?_ _ | refine Below.sc ?_ (by simp <;> omega) _ | refine Below.th ?_ (by assumption)))⟩
    · obtain ⟨hc, n1, n2⟩ := Counts.of e1
      obtain ⟨i0, hi, hz0, hz1, hz2⟩ := info_parts Try.infoI
      have HE := Aside.mk (fun k hk => event_at e2 (k := k) hk)
      have hC := Aside.mk hc
      clear hc
      go_enter Try.func40, Try.ntmps40
      go_wp2_with (first | (go_at_call 52; refine (counted_c _ _ _ _ hr hl).mono ?_; rintro e w' ⟨rfl, rfl⟩) | (go_at_call 53; refine (event_c _ _ _ _ _ hs hm (by omega) (by omega)).mono ?_; rintro e w' ⟨rfl, rfl⟩) | (at_make; refine wpList_make_full _ rfl (.tmp 20) (.tmp 20) 53 rfl w.heap.size 3 i0 (.int .i64 0) 1 Try.underlying53 hi hz0 hz1 .i64 .i64 l.length l.length l.length rfl rfl rfl rfl (by rw [hz2]; omega) (by unfold maxLen; omega) (Nat.le_refl _) ?_; intro w1 hown hgr; rw [made_ints] at hown; have HO := Aside.mk hown; have HG := Aside.mk hgr; clear hown hgr))
      go_loopw [8, 24] (fun x i wr => ∃ k : Nat, k ≤ s.length ∧ i = .int .i64 k ∧ Below w.heap.size w wr ∧ Aside (wr.ownsRow w.heap.size 3 1 (.slice (some ⟨w.heap.size, 0, none⟩) l.length l.length) l.length (ints (givenI l (s.take k))))) (fun _ i _ => s.length - (intOf i).toNat)
      case atStart => exact ⟨0, Nat.zero_le _, rfl, (Below.refl _ _).grown HG.out (Nat.le_refl _) (by simp), HO⟩
      case round =>
        obtain ⟨k, hk, rfl, hB, HO⟩ := hrel
        by_cases hlt : k < s.length
        · obtain ⟨b, o, rfl, hb0, hcell⟩ := (hs.below hB).int_at hlt
          have he := HE.out k hlt
          have hj : s[k].toNat < l.length := by omega
          obtain ⟨b', o', rfl, hb0', hcell'⟩ := (hr.below hB).int_at (i := s[k].toNat) hj
          have hlen := givenI_len l (s.take k)
          obtain ⟨x0, hown0⟩ : ∃ x, wr.cell? ⟨w.heap.size, s[k].toNat, none⟩ = some (.int .i64 x) := ⟨(givenI l (s.take k))[s[k].toNat], by
            rw [HO.out.cellAt _ (by rw [Nat.mul_one]; exact hj)]; simp [ints, hlen, hj]⟩
          have hfz0 := HO.out.frozenAt s[k].toNat
          have HST := Aside.mk (HO.out.stored s[k].toNat (.int .i64 l[s[k].toNat]))
          have HS : Hid (givenI l (s.take (k + 1)) = (givenI l (s.take k)).set s[k].toNat l[s[k].toNat]) := by
            show _ = _
            rw [givenI_snoc l s k hlt]; simp [hj]
          clear hlen
          go_wp2
          go_roundw
          case rel => exact ⟨k + 1, by omega, by go_num, (by repeat (with_reducible first | exact Below.refl _ _ | assumption | refine Below.al ?_ _ | refine Below.dr ?_ | refine Below.drn ?_ _ | refine Below.sc ?_ (by simp <;> omega) _ | refine Below.th ?_ (by assumption))), ⟨by rw [HS.out, ← ints_set]; exact HST.out.1⟩⟩
          case measure => simp [intOf]; omega
        · obtain rfl : k = s.length := by omega
          have HO' := HO.out
          rw [List.take_length] at HO'
          have hlen := Lib.hid (givenI_len l s)
          have hgl := Lib.hid (show givenL l s = givenI l s from by simp [givenL, givenOk, e1, e2])
          have HA := Aside.mk (Arr.own HO')
          clear HO'
          go_wp2
          go_ret2
          exact ⟨some ⟨w.heap.size, 0, none⟩, l.length, by rw [hgl.out, hlen.out]; simp [eArg, givenOk, e1, e2], by rw [hgl.out]; exact HA.out, (by repeat (with_reducible first | exact Below.refl _ _ | assumption | refine Below.al ?_ _ | refine Below.dr ?_ | refine Below.drn ?_ _ | refine Below.sc ?_ (by simp <;> omega) _ | refine Below.th ?_ (by assumption)))⟩

/-- how much less b has than a in the outcomes up to k: what a has more behind k -/
def moreI (a b : List Int) : Nat → Int
  | 0 => 0
  | k + 1 => moreI a b k + (b.getD k 0 - a.getD k 0)
theorem moreI_bd (a b : List Int) (ha : Counts a) (hb : Counts b) : ∀ k, -1000000 * k ≤ moreI a b k ∧ moreI a b k ≤ 1000000 * k
  | 0 => by simp [moreI]
  | k + 1 => by
    have ih := moreI_bd a b ha hb k
    have p : ∀ l : List Int, Counts l → 0 ≤ l.getD k 0 ∧ l.getD k 0 ≤ 1000000 := fun l h => by
      by_cases e : k < l.length
      · have := h _ e; simpa [e] using this
      · simp [e]
    have pa := p a ha
    have pb := p b hb
    unfold moreI; omega
def betterB (a b : List Int) : Bool := ((List.range a.length).all fun k => decide (0 ≤ moreI a b (k + 1))) && decide (moreI a b a.length = 0)
def betterOk (a b : List Int) : Bool := countedB a && countedB b && decide (a.length = b.length)
def betterV (a b : List Int) : Value := if betterOk a b then .tuple #[.bool (betterB a b), .int .i64 0] else .tuple #[.bool false, .int .i64 2]
end Go.Proofs.Ytjbgdpbeabakiaa
