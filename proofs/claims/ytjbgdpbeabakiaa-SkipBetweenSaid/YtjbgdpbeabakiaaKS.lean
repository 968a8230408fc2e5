/- The law SkipLeads: its function answers true (Blank's contract handed in). -/
import Derived.Test.YtjbgdpbeabakiaaKQ
import Derived.Test.YtjbgdpbeabakiaaP4
namespace Go.Proofs.Ytjbgdpbeabakiaa
open Go.RowKit Go.Shelf
set_option linter.unusedVariables false
set_option linter.unusedSimpArgs false
/-- rows, each slice of which reads as a row -/
def Readable (w : World) (sl : List Value) (ll : List (List Int)) : Prop :=
  sl.length = ll.length ∧ ∀ i, (h : i < sl.length) → (h' : i < ll.length) → ∃ A c, sl[i] = .slice A ll[i].length c ∧ ArrB w.heap.size w A (ints ll[i])
theorem Inner.readable {w : World} {base : Nat} {sl : List Value} {ll : List (List Int)} (h : Inner w base sl ll) : Readable w sl ll :=
  ⟨h.1, fun i h1 h2 => by
    have hr := h.2 i h1 h2
    obtain ⟨A, c, hv, _⟩ := own_slice hr
    rw [hv] at hr
    exact ⟨A, c, hv, (Arr.own hr).arrB⟩⟩
theorem Readable.snoc {w : World} {sl : List Value} {ll : List (List Int)} {A : Option Addr} {c : Nat} {l : List Int} (h : Readable w sl ll) (hr : Arr w A (ints l)) : Readable w (sl ++ [.slice A l.length c]) (ll ++ [l]) := by
  refine ⟨by simp [h.1], fun i h1 h2 => ?_⟩
  have e := h.1
  by_cases hi : i < sl.length
  · have := h.2 i hi (by omega)
    rw [List.getElem_append_left hi, List.getElem_append_left (by omega)]; exact this
  · have : i = sl.length := by simp at h1; omega
    subst this
    rw [List.getElem_append_right (by omega), List.getElem_append_right (by omega)]
    exact ⟨A, c, by simp [e], by simpa [e] using hr.arrB⟩
theorem rows_readable {w : World} {base : Nat} {v : Value} {sl : List Value} {ll : List (List Int)} (h : w.ownsRow base 53 1 v ll.length sl) (hi : Readable w sl ll) : ∃ A c, v = .slice A ll.length c ∧ Rows w.heap.size w A ll := by
  obtain ⟨A, c, rfl, ha⟩ := Arr.of_own h
  refine ⟨A, c, rfl, ?_⟩
  rcases ha with h0 | ⟨b, o, rfl, hb, hc⟩
  · left
    have := h.1
    rw [h0] at this
    exact List.length_eq_zero_iff.1 (by simpa using this.symm)
  · refine .inr ⟨b, o, rfl, hb, fun i hi2 => ?_⟩
    have e := hi.1
    obtain ⟨A', c', hv, hn⟩ := hi.2 i (by omega) hi2
    have q := hc i (by omega)
    rw [List.getElem?_eq_getElem (by omega), hv] at q
    exact ⟨A', c', q, hn⟩
theorem addR_ab (m : Riv) (st : List Int) : (addR m 0 st).a = m.a ++ [st] ∧ (addR m 0 st).b = m.b ∧ (addR m 1 st).a = m.a ∧ (addR m 1 st).b = m.b ++ [st] := by simp [addR]
theorem Short.snoc {ll : List (List Int)} {l : List Int} (h : Short ll) (hl : l.length ≤ 60) : Short (ll ++ [l]) := fun i hi => by
  by_cases h' : i < ll.length
  · rw [List.getElem_append_left h']; exact h i h'
  · rw [List.getElem_append_right (by omega)]; simpa using hl
/-- rivals in memory of their own, with one style more of a team -/
theorem add_args0 {W W2 W3 : World} {base nB j : Nat} {v0 v1 v0' u : Value} {s0 s1 : List Value} {m : Riv} {As : Option Addr} {cs : Nat} {st : List Int} {xs : Array Value} (hO : Own4 W base v0 v1 s0 s1 m.a m.b) (hB : Below W.heap.size W W2) (hg : W2.grownBy W3 v0.ownBlock)
    (ho : W3.ownsRow base 53 1 v0' (m.a.length + 1) (s0 ++ [.slice As st.length cs])) (X : Blk W3 nB xs 25) (hs : Arr (W3.setCell ⟨nB, j, none⟩ u) As (ints st)) (sa : Short m.a) (sb : Short m.b) (la : m.a.length ≤ 9) (lb : m.b.length ≤ 9) (hst : st.length ≤ 60) :
    ∃ A0 A1 c0 c1, v0' = .slice A0 (m.a.length + 1) c0 ∧ v1 = .slice A1 m.b.length c1 ∧ Args (W3.setCell ⟨nB, j, none⟩ u) A0 A1 (addR m 0 st) := by
  have k := hO.be hB
  have set := grown_set W3 ⟨nB, j, none⟩ u
  have r0 : Inner (W3.setCell ⟨nB, j, none⟩ u) base s0 m.a := (k.r0.kept hg (fun v hv => by obtain ⟨n, xs, h⟩ := k.r0.at_ hv; exact (own_own_ne h k.o0 (by decide)).ne)).kept set (fun v hv => by
    obtain ⟨n, xs, h⟩ := k.r0.at_ hv
    exact .inr (own_blk_ne (h.kept hg (own_own_ne h k.o0 (by decide)).ne) X (by decide)))
  have r1 : Inner (W3.setCell ⟨nB, j, none⟩ u) base s1 m.b := (k.r1.kept hg (fun v hv => by obtain ⟨n, xs, h⟩ := k.r1.at_ hv; exact (own_own_ne h k.o0 (by decide)).ne)).kept set (fun v hv => by
    obtain ⟨n, xs, h⟩ := k.r1.at_ hv
    exact .inr (own_blk_ne (h.kept hg (own_own_ne h k.o0 (by decide)).ne) X (by decide)))
  have o1 := k.o1.kept hg k.ap.ne'
  have o1 := o1.kept set (.inr (own_blk_ne o1 X (by decide)))
  have o0 := ho.kept set (.inr (own_blk_ne ho X (by decide)))
  have e := addR_ab m st
  obtain ⟨A0, c0, e0, q0⟩ := rows_readable (ll := m.a ++ [st]) (by simpa using o0) (r0.readable.snoc (c := cs) hs)
  obtain ⟨A1, c1, e1, q1⟩ := rows_readable o1 r1.readable
  exact ⟨A0, A1, c0, c1, by simpa using e0, e1, by rw [e.1]; exact q0, by rw [e.2.1]; exact q1, by rw [e.1]; exact sa.snoc hst, by rw [e.2.1]; exact sb, by rw [e.1]; simp; omega, by rw [e.2.1]; omega⟩
theorem add_args1 {W W2 W3 : World} {base nB j : Nat} {v0 v1 v1' u : Value} {s0 s1 : List Value} {m : Riv} {As : Option Addr} {cs : Nat} {st : List Int} {xs : Array Value} (hO : Own4 W base v0 v1 s0 s1 m.a m.b) (hB : Below W.heap.size W W2) (hg : W2.grownBy W3 v1.ownBlock)
    (ho : W3.ownsRow base 53 1 v1' (m.b.length + 1) (s1 ++ [.slice As st.length cs])) (X : Blk W3 nB xs 25) (hs : Arr (W3.setCell ⟨nB, j, none⟩ u) As (ints st)) (sa : Short m.a) (sb : Short m.b) (la : m.a.length ≤ 9) (lb : m.b.length ≤ 9) (hst : st.length ≤ 60) :
    ∃ A0 A1 c0 c1, v0 = .slice A0 m.a.length c0 ∧ v1' = .slice A1 (m.b.length + 1) c1 ∧ Args (W3.setCell ⟨nB, j, none⟩ u) A0 A1 (addR m 1 st) := by
  have k := hO.be hB
  have set := grown_set W3 ⟨nB, j, none⟩ u
  have r0 : Inner (W3.setCell ⟨nB, j, none⟩ u) base s0 m.a := (k.r0.kept hg (fun v hv => by obtain ⟨n, xs, h⟩ := k.r0.at_ hv; exact (own_own_ne h k.o1 (by decide)).ne)).kept set (fun v hv => by
    obtain ⟨n, xs, h⟩ := k.r0.at_ hv
    exact .inr (own_blk_ne (h.kept hg (own_own_ne h k.o1 (by decide)).ne) X (by decide)))
  have r1 : Inner (W3.setCell ⟨nB, j, none⟩ u) base s1 m.b := (k.r1.kept hg (fun v hv => by obtain ⟨n, xs, h⟩ := k.r1.at_ hv; exact (own_own_ne h k.o1 (by decide)).ne)).kept set (fun v hv => by
    obtain ⟨n, xs, h⟩ := k.r1.at_ hv
    exact .inr (own_blk_ne (h.kept hg (own_own_ne h k.o1 (by decide)).ne) X (by decide)))
  have o0 := k.o0.kept hg k.ap.ne
  have o0 := o0.kept set (.inr (own_blk_ne o0 X (by decide)))
  have o1 := ho.kept set (.inr (own_blk_ne ho X (by decide)))
  have e := addR_ab m st
  obtain ⟨A1, c1, e1, q1⟩ := rows_readable (ll := m.b ++ [st]) (by simpa using o1) (r1.readable.snoc (c := cs) hs)
  obtain ⟨A0, c0, e0, q0⟩ := rows_readable o0 r0.readable
  exact ⟨A0, A1, c0, c1, e0, by simpa using e1, by rw [e.2.2.1]; exact q0, by rw [e.2.2.2]; exact q1, by rw [e.2.2.1]; exact sa, by rw [e.2.2.2]; exact sb.snoc hst, by rw [e.2.2.1]; omega, by rw [e.2.2.2]; simp; omega⟩
/-- the hopes of a state, of one with a greater lead, and with one style more -/
theorem lead_law (m : Riv) (n l l' h : Int) (st : List Int) (hl : stOk n l h = true → l ≤ l') :
    ∃ a1 a2 ee b1 b2 ff, valueV m n l h = .tuple #[.agg #[.int .i64 a1, .int .i64 a2], .int .i64 ee] ∧ valueV m n l' h = .tuple #[.agg #[.int .i64 b1, .int .i64 b2], .int .i64 ff] ∧ (ee = 0 → ff = 0 → a1 ≤ b1 ∧ a2 ≤ b2) ∧ (ee = 0 ∨ ee = 2) ∧ (ff = 0 ∨ ff = 2) ∧
      (∀ t, t = 0 ∨ t = 1 → ∃ c1 c2 gg, valueV (addR m t st) n l h = .tuple #[.agg #[.int .i64 c1, .int .i64 c2], .int .i64 gg] ∧ (gg = 0 ∨ gg = 2) ∧ (ee = 0 → gg = 0 → (t = 0 → a1 ≤ c1 ∧ a2 ≤ c2) ∧ (t = 1 → c1 ≤ a1 ∧ c2 ≤ a2))) := by
  have two : ∀ (m : Riv) (l : Int), (∃ x1 x2, valueV m n l h = .tuple #[.agg #[.int .i64 x1, .int .i64 x2], .int .i64 2]) ∨ ((rivOk m && stOk n l h) = true ∧ valueV m n l h = .tuple #[.agg #[.int .i64 (hopeH m n.toNat l h).1, .int .i64 (hopeH m n.toNat l h).2], .int .i64 0]) := fun m l => by
    cases e : rivOk m && stOk n l h
    · exact .inl ⟨0, 0, by simp only [valueV]; rw [e]; rfl⟩
    · exact .inr ⟨rfl, by simp only [valueV]; rw [e]; rfl⟩
  rcases two m l with ⟨x1, x2, e1⟩ | ⟨o1, e1⟩
  · rcases two m l' with ⟨y1, y2, e2⟩ | ⟨o2, e2⟩
    · exact ⟨_, _, _, _, _, _, e1, e2, (fun h => by omega), .inr rfl, .inr rfl, fun t ht => by
        rcases two (addR m t st) l with ⟨z1, z2, e3⟩ | ⟨o3, e3⟩
        · exact ⟨_, _, _, e3, .inr rfl, (fun h => by omega)⟩
        · exact ⟨_, _, _, e3, .inl rfl, (fun h => by omega)⟩⟩
    · exact ⟨_, _, _, _, _, _, e1, e2, (fun h => by omega), .inr rfl, .inl rfl, fun t ht => by
        rcases two (addR m t st) l with ⟨z1, z2, e3⟩ | ⟨o3, e3⟩
        · exact ⟨_, _, _, e3, .inr rfl, (fun h => by omega)⟩
        · exact ⟨_, _, _, e3, .inl rfl, (fun h => by omega)⟩⟩
  · rw [Bool.and_eq_true] at o1
    obtain ⟨em, es⟩ := o1
    obtain ⟨_, _, hh⟩ := stOk_iff es
    have third : ∀ t, t = 0 ∨ t = 1 → ∃ c1 c2 gg, valueV (addR m t st) n l h = .tuple #[.agg #[.int .i64 c1, .int .i64 c2], .int .i64 gg] ∧ (gg = 0 ∨ gg = 2) ∧ ((0 : Int) = 0 → gg = 0 → (t = 0 → (hopeH m n.toNat l h).1 ≤ c1 ∧ (hopeH m n.toNat l h).2 ≤ c2) ∧ (t = 1 → c1 ≤ (hopeH m n.toNat l h).1 ∧ c2 ≤ (hopeH m n.toNat l h).2)) := fun t ht => by
      rcases two (addR m t st) l with ⟨z1, z2, e3⟩ | ⟨o3, e3⟩
      · exact ⟨_, _, _, e3, .inr rfl, (fun _ h => by omega)⟩
      · refine ⟨_, _, _, e3, .inl rfl, fun _ _ => ?_⟩
        have k := hopeH_more em ht st n.toNat l h hh
        unfold leT at k
        rcases ht with rfl | rfl
        · exact ⟨fun _ => k, (fun e => by omega)⟩
        · exact ⟨(fun e => by omega), fun _ => k⟩
    rcases two m l' with ⟨y1, y2, e2⟩ | ⟨o2, e2⟩
    · exact ⟨_, _, _, _, _, _, e1, e2, (fun _ h => by omega), .inl rfl, .inr rfl, third⟩
    · exact ⟨_, _, _, _, _, _, e1, e2, fun _ _ => hopeH_lead em n.toNat l l' h (hl es), .inl rfl, .inl rfl, third⟩
end Go.Proofs.Ytjbgdpbeabakiaa
