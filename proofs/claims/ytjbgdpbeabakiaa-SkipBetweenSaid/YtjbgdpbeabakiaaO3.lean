/- Opening rivals and states of a game, as arguments. -/
import Derived.Test.YtjbgdpbeabakiaaO2
import Derived.Test.YtjbgdpbeabakiaaKJ
import Derived.OpenShut
namespace Go.Proofs.Ytjbgdpbeabakiaa
open Go.ChangeShapes Go.WideShapes Go.ChangeAt Go.RowKit Go.Deep
set_option linter.unusedVariables false
set_option linter.unusedSimpArgs false
section
variable {H : Type} {enc : TypeId × Value → H} {w : World} {base : Nat} {spare : Nat → Bool} {held : Bool} {fuel : Nat} {cs : List Value} {x : DataW H × List MemPlace}
theorem open_count_row (h : DataW.trod enc Try.prog w base spare held fuel 53 cs = some x) :
    ∃ A N c, cs = [.slice A N c] ∧ ∃ l : List Int, l.length = N ∧ l.length ≤ 9223372036854775807 ∧ Arr w A (ints l) := by
  obtain ⟨A, N, c, hcs, l, hl, ha, _⟩ := open_row (P := Try.prog) Try.underlying53 Try.underlying3 (by kernel_rfl) h
  refine ⟨A, N, c, hcs, l, hl, ?_, ha⟩
  rcases open_slice Try.underlying53 h with ⟨h0, _⟩ | ⟨a, len, cap, m, n, D, Pl, hcs', hb, hl', hm, _⟩
  · rw [hcs] at h0; simp at h0; omega
  · rw [hcs] at hcs'; simp at hcs'
    have e : maxLen = 9223372036854775807 := rfl
    omega
theorem open_count_rows (h : DataW.trod enc Try.prog w base spare held fuel 22 cs = some x) :
    ∃ A N c, cs = [.slice A N c] ∧ ∃ ll : List (List Int), ll.length = N ∧ N ≤ 9223372036854775807 ∧ Rows w.heap.size w A ll ∧ ∀ l ∈ ll, l.length ≤ 9223372036854775807 := by
  rcases open_slice Try.underlying22 h with ⟨h0, _⟩ | ⟨a, len, cap, m, n, D, Pl, hcs, hb, hl, hm, hmm, hx, hi⟩
  · exact ⟨_, _, _, h0, [], rfl, by omega, .inl rfl, fun _ h => by simp at h⟩
  · have hle : len ≤ m := by rw [hmm]; split <;> omega
    have e1 : Try.prog.cellsOf 53 = 1 := by kernel_rfl
    have em : maxLen = 9223372036854775807 := rfl
    rw [e1] at hi
    obtain ⟨ll, hl1, hl2⟩ := list_of (Q := fun i (l : List Int) => ∃ A' c', w.cell? (a.add i) = some (.slice A' l.length c') ∧ ArrB w.heap.size w A' (ints l) ∧ l.length ≤ 9223372036854775807) len fun i hil => by
      obtain ⟨cs', hc, ht'⟩ := hi i (by omega)
      obtain ⟨A', N', c', rfl, l, rfl, hl, ha⟩ := open_count_row ht'
      obtain ⟨_, _, hat⟩ := World.cells?_some hc
      have := hat 0 (by omega)
      simp [Addr.add] at this
      exact ⟨l, A', c', by simpa [Addr.add] using this, ha.arrB, hl⟩
    refine ⟨_, _, _, hcs, ll, hl1, by omega, ?_, fun l hl => ?_⟩
    · by_cases h0 : 0 < ll.length
      · obtain ⟨A', c', hc, _⟩ := hl2 0 h0
        simp [Addr.add] at hc
        obtain ⟨e, hb⟩ := addr_plain hc
        refine .inr ⟨a.block, a.off, by rw [← e], hb, fun i hi => ?_⟩
        obtain ⟨A'', c'', h1, h2, _⟩ := hl2 i hi
        refine ⟨A'', c'', ?_, h2⟩
        rw [e] at h1
        have := add_plain a.block a.off i 0
        simp [Addr.add] at this h1
        by_cases h0 : i = 0
        · subst h0; simpa using h1
        · simpa [h0] using h1
      · have : ll = [] := by cases ll with | nil => rfl | cons _ _ => simp at h0
        exact .inl this
    · obtain ⟨i, hi, rfl⟩ := List.mem_iff_getElem.1 hl
      obtain ⟨_, _, _, _, h⟩ := hl2 i hi
      exact h
theorem open_state (h : DataW.trod enc Try.prog w base spare held fuel 27 cs = some x) : ∃ a b c, cs = [.int .i64 a, .int .i64 b, .int .i64 c] := by
  have hl : cs.length = 3 := (trod_len Try.underlying27 h).trans (by kernel_rfl)
  match cs, hl with
  | [c0, c1, c2], _ =>
    obtain ⟨n0, y0, h0⟩ := field_trod Try.underlying27 h 0 _ rfl
    obtain ⟨n1, y1, h1⟩ := field_trod Try.underlying27 h 1 _ rfl
    obtain ⟨n2, y2, h2⟩ := field_trod Try.underlying27 h 2 _ rfl
    have e2 : Try.prog.cellsOf 3 = 1 := by kernel_rfl
    simp only [List.getElem_toArray, List.getElem_cons_zero, List.getElem_cons_succ, List.drop_succ_cons, List.drop_zero, List.take_succ_cons, List.take_zero, e2] at h0 h1 h2
    obtain ⟨a, rfl, _⟩ := int_of Try.underlying3 h0
    obtain ⟨b, rfl, _⟩ := int_of Try.underlying3 h1
    obtain ⟨c, rfl, _⟩ := int_of Try.underlying3 h2
    exact ⟨a, b, c, rfl⟩
set_option maxRecDepth 100000 in
theorem open_rivals (h : DataW.trod enc Try.prog w base spare held fuel 25 cs = some x) :
    ∃ (A0 A1 : Option Addr) (c0 c1 : Nat) (m : Riv), cs = [.int .i64 m.d, .slice A0 m.a.length c0, .slice A1 m.b.length c1] ∧ Came w A0 A1 m := by
  have hl : cs.length = 3 := (trod_len Try.underlying25 h).trans (by kernel_rfl)
  match cs, hl with
  | [c0, c1, c2], _ =>
    obtain ⟨n0, y0, h0⟩ := field_trod Try.underlying25 h 0 _ rfl
    obtain ⟨n1, y1, h1⟩ := field_trod Try.underlying25 h 1 _ rfl
    have e1 : Try.prog.cellsOf 3 = 1 := by kernel_rfl
    have e2 : Try.prog.cellsOf 23 = 2 := by kernel_rfl
    simp only [List.getElem_toArray, List.getElem_cons_zero, List.getElem_cons_succ, List.drop_succ_cons, List.drop_zero, List.take_succ_cons, List.take_zero, e1, e2] at h0 h1
    obtain ⟨d, rfl, _⟩ := int_of Try.underlying3 h0
    obtain ⟨xs, n, _, _, _, hx, hg⟩ := DataW.trod_array Try.underlying23 h1
    have e3 : Try.prog.cellsOf 22 = 1 := by kernel_rfl
    have g0 := hg 0 (by omega)
    have g1 := hg 1 (by omega)
    rw [e3, List.getElem?_eq_getElem (by omega)] at g0 g1
    simp at g0 g1
    obtain ⟨A0, N0, k0, q0, l0, rfl, m0, r0, s0⟩ := open_count_rows g0
    obtain ⟨A1, N1, k1, q1, l1, rfl, m1, r1, s1⟩ := open_count_rows g1
    simp at q0 q1
    exact ⟨A0, A1, k0, k1, ⟨l0, l1, d⟩, by simp [q0, q1], r0, r1, m0, m1, s0, s1⟩
theorem open_state2 (h : DataW.trod enc Try.prog w base spare held fuel 27 cs = some x) : ∃ a b c, cs = [.int .i64 a, .int .i64 b, .int .i64 c] ∧ (-9223372036854775808 ≤ b ∧ b ≤ 9223372036854775807) ∧ (-9223372036854775808 ≤ c ∧ c ≤ 9223372036854775807) := by
  have hl : cs.length = 3 := (trod_len Try.underlying27 h).trans (by kernel_rfl)
  match cs, hl with
  | [c0, c1, c2], _ =>
    obtain ⟨n0, y0, h0⟩ := field_trod Try.underlying27 h 0 _ rfl
    obtain ⟨n1, y1, h1⟩ := field_trod Try.underlying27 h 1 _ rfl
    obtain ⟨n2, y2, h2⟩ := field_trod Try.underlying27 h 2 _ rfl
    have e2 : Try.prog.cellsOf 3 = 1 := by kernel_rfl
    simp only [List.getElem_toArray, List.getElem_cons_zero, List.getElem_cons_succ, List.drop_succ_cons, List.drop_zero, List.take_succ_cons, List.take_zero, e2] at h0 h1 h2
    obtain ⟨a, rfl, _⟩ := int_of Try.underlying3 h0
    obtain ⟨b, rfl, wb⟩ := int_of Try.underlying3 h1
    obtain ⟨c, rfl, wc⟩ := int_of Try.underlying3 h2
    exact ⟨a, b, c, rfl, by simpa [Lit.wf, IntKind.min, IntKind.max, IntKind.signed, IntKind.bits] using wb, by simpa [Lit.wf, IntKind.min, IntKind.max, IntKind.signed, IntKind.bits] using wc⟩
end
section
variable {H : Type} {enc : TypeId × Value → H} {w : World} {base : Nat} {spare : Nat → Bool} {held : Bool} {r : Reach} {b0 : Nat} {v : Value} {d : DataW H} {p : List MemPlace}
set_option maxRecDepth 100000 in
theorem rivals_arg (hval : Value.okWide Try.prog w r b0 25 v) (h : DataW.Trod enc Try.prog w base spare held 25 v d p) :
    ∃ (A0 A1 : Option Addr) (c0 c1 : Nat) (m : Riv), v = rivV m A0 A1 c0 c1 ∧ Came w A0 A1 m := by
  obtain ⟨cs, rfl, _⟩ := okWide_struct Try.underlying25 hval
  obtain ⟨fuel, hf⟩ := h
  obtain ⟨A0, A1, c0, c1, m, hcs, hc⟩ := open_rivals hf
  exact ⟨A0, A1, c0, c1, m, by cases cs; simpa [Value.cells, rivV] using hcs, hc⟩
set_option maxRecDepth 100000 in
theorem state_arg (hval : Value.okWide Try.prog w r b0 27 v) (h : DataW.Trod enc Try.prog w base spare held 27 v d p) :
    ∃ a b c, v = .agg #[.int .i64 a, .int .i64 b, .int .i64 c] := by
  obtain ⟨cs, rfl, _⟩ := okWide_struct Try.underlying27 hval
  obtain ⟨fuel, hf⟩ := h
  obtain ⟨a, b, c, hcs⟩ := open_state hf
  exact ⟨a, b, c, by cases cs; simpa [Value.cells] using hcs⟩
set_option maxRecDepth 100000 in
theorem state_arg2 (hval : Value.okWide Try.prog w r b0 27 v) (h : DataW.Trod enc Try.prog w base spare held 27 v d p) :
    ∃ a b c, v = .agg #[.int .i64 a, .int .i64 b, .int .i64 c] ∧ (-9223372036854775808 ≤ b ∧ b ≤ 9223372036854775807) ∧ (-9223372036854775808 ≤ c ∧ c ≤ 9223372036854775807) := by
  obtain ⟨cs, rfl, _⟩ := okWide_struct Try.underlying27 hval
  obtain ⟨fuel, hf⟩ := h
  obtain ⟨a, b, c, hcs, hb⟩ := open_state2 hf
  exact ⟨a, b, c, by cases cs; simpa [Value.cells] using hcs, hb⟩
end
end Go.Proofs.Ytjbgdpbeabakiaa
