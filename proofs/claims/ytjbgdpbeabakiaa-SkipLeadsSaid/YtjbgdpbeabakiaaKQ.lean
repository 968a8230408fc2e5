/- Chapter 11: rivals in memory of their own; contract of the law's copied. -/
import Derived.Test.YtjbgdpbeabakiaaKJ
import Derived.Test.YtjbgdpbeabakiaaKA
namespace Go.Proofs.Ytjbgdpbeabakiaa
open Go.RowKit Go.Shelf
set_option linter.unusedVariables false
set_option linter.unusedSimpArgs false
theorem Blk.three {W : World} {b : Nat} {x y z : Value} {T : TypeId} (X : Blk W b #[x, y, z] T) : W.cell? ⟨b, 0, none⟩ = some x ∧ W.cell? ⟨b, 1, none⟩ = some y ∧ W.cell? ⟨b, 2, none⟩ = some z :=
  ⟨by rw [X.cell]; rfl, by rw [X.cell]; rfl, by rw [X.cell]; rfl⟩
theorem Blk.two {W : World} {b : Nat} {x y : Value} {T : TypeId} (X : Blk W b #[x, y] T) : W.cell? ⟨b, 0, none⟩ = some x ∧ W.cell? ⟨b, 1, none⟩ = some y :=
  ⟨by rw [X.cell]; rfl, by rw [X.cell]; rfl⟩
theorem own_blk_ne {w : World} {base g n size : Nat} {e t : TypeId} {v : Value} {xs : List Value} {cs : Array Value} (h : w.ownsRow base e size v n xs) (hg : Blk w g cs t) (hne : e ≠ t) : v.ownBlock ≠ some g := by
  rcases h.2 with ⟨rfl, _⟩ | ⟨g', cap, cur, rfl, _, hh, _⟩
  · simp [Value.ownBlock]
  · intro he
    have : g' = g := by simpa [Value.ownBlock] using he
    subst this
    rw [show w.heap[g']? = _ from hg] at hh
    cases hh
    exact hne rfl
theorem own_own_ne {w : World} {base base' n n' size size' : Nat} {e t : TypeId} {v u : Value} {xs ys : List Value} (h : w.ownsRow base e size v n xs) (k : w.ownsRow base' t size' u n' ys) (hne : e ≠ t) : Apart v u := by
  intro b hb hu
  rcases k.2 with ⟨rfl, _⟩ | ⟨g', cap, cur, rfl, _, hh, _⟩
  · simp [Value.ownBlock] at hu
  · have : g' = b := by simpa [Value.ownBlock] using hu
    subst this
    exact own_blk_ne h (show Blk w g' cur t from hh) hne hb
theorem Apart.symm {u v : Value} (h : Apart u v) : Apart v u := fun b h1 h2 => h b h2 h1
/-- a list's rows, one by one -/
def Inner (w : World) (base : Nat) (sl : List Value) (ll : List (List Int)) : Prop :=
  sl.length = ll.length ∧ ∀ i, (h : i < sl.length) → (h' : i < ll.length) → w.ownsRow base 3 1 sl[i] ll[i].length (ints ll[i])
/-- rivals in memory of their own -/
structure Own4 (w : World) (base : Nat) (v0 v1 : Value) (s0 s1 : List Value) (la lb : List (List Int)) : Prop where
  o0 : w.ownsRow base 53 1 v0 la.length s0
  o1 : w.ownsRow base 53 1 v1 lb.length s1
  ap : Apart v0 v1
  r0 : Inner w base s0 la
  r1 : Inner w base s1 lb
  pw : (s0 ++ s1).Pairwise Apart
theorem Inner.kept {w w' : World} {base : Nat} {sl : List Value} {ll : List (List Int)} {row : Option Nat} (h : Inner w base sl ll) (hg : w.grownBy w' row) (hne : ∀ v ∈ sl, v.ownBlock = none ∨ v.ownBlock ≠ row) : Inner w' base sl ll :=
  ⟨h.1, fun i h1 h2 => (h.2 i h1 h2).kept hg (hne _ (List.getElem_mem h1))⟩
theorem Own4.nil (w : World) (base : Nat) : Own4 w base (.slice none 0 0) (.slice none 0 0) [] [] [] [] :=
  ⟨own_none' _ _ _, own_none' _ _ _, fun b h => by simp [Value.ownBlock] at h, ⟨rfl, fun i h => by simp at h⟩, ⟨rfl, fun i h => by simp at h⟩, by simp⟩
/-- a world in which new blocks are made -/
theorem grown_below {w w' : World} (hb : Below w.heap.size w w') : w.grownBy w' none := ⟨hb.os, hb.tape, hb.output, hb.size, fun k hk _ => hb.block k hk⟩
theorem none_ne (v : Value) : v.ownBlock = none ∨ v.ownBlock ≠ none := by cases v.ownBlock <;> simp
theorem Own4.be {w w' : World} {base : Nat} {v0 v1 : Value} {s0 s1 : List Value} {la lb : List (List Int)} (h : Own4 w base v0 v1 s0 s1 la lb) (hb : Below w.heap.size w w') : Own4 w' base v0 v1 s0 s1 la lb :=
  ⟨h.o0.kept (grown_below hb) (none_ne _), h.o1.kept (grown_below hb) (none_ne _), h.ap, h.r0.kept (grown_below hb) (fun v _ => none_ne v), h.r1.kept (grown_below hb) (fun v _ => none_ne v), h.pw⟩
/-- a store into a block that is none of theirs -/
theorem grown_set (w : World) (a : Addr) (v : Value) : w.grownBy (w.setCell a v) (some a.block) :=
  ⟨rfl, rfl, rfl, by simp [World.setCell], fun k hk hne => Below.heap_setCell _ _ _ _ (fun e => hne (by rw [e]))⟩
theorem Own4.sc {w : World} {base : Nat} {v0 v1 : Value} {s0 s1 : List Value} {la lb : List (List Int)} {a : Addr} {cs : Array Value} {T : TypeId} (h : Own4 w base v0 v1 s0 s1 la lb) (u : Value) (hb : Blk w a.block cs T) (h1 : 3 ≠ T) (h2 : 53 ≠ T) : Own4 (w.setCell a u) base v0 v1 s0 s1 la lb :=
  ⟨h.o0.kept (grown_set w a u) (.inr (own_blk_ne h.o0 hb h2)), h.o1.kept (grown_set w a u) (.inr (own_blk_ne h.o1 hb h2)), h.ap,
    h.r0.kept (grown_set w a u) (fun v hv => by obtain ⟨i, hi, rfl⟩ := List.mem_iff_getElem.1 hv; exact .inr (own_blk_ne (h.r0.2 i hi (by rw [← h.r0.1]; exact hi)) hb h1)),
    h.r1.kept (grown_set w a u) (fun v hv => by obtain ⟨i, hi, rfl⟩ := List.mem_iff_getElem.1 hv; exact .inr (own_blk_ne (h.r1.2 i hi (by rw [← h.r1.1]; exact hi)) hb h1)), h.pw⟩
theorem Inner.at_ {w : World} {base : Nat} {sl : List Value} {ll : List (List Int)} (h : Inner w base sl ll) {v : Value} (hv : v ∈ sl) : ∃ n xs, w.ownsRow base 3 1 v n xs := by
  obtain ⟨i, hi, rfl⟩ := List.mem_iff_getElem.1 hv
  exact ⟨_, _, h.2 i hi (by rw [← h.1]; exact hi)⟩
theorem Inner.snoc {w : World} {base : Nat} {sl : List Value} {ll : List (List Int)} {x : Value} {l : List Int} (h : Inner w base sl ll) (hx : w.ownsRow base 3 1 x l.length (ints l)) : Inner w base (sl ++ [x]) (ll ++ [l]) := by
  refine ⟨by simp [h.1], fun i h1 h2 => ?_⟩
  have e := h.1
  by_cases hi : i < sl.length
  · have := h.2 i hi (by omega)
    rw [List.getElem_append_left hi, List.getElem_append_left (by omega)]; exact this
  · have : i = sl.length := by simp at h1; omega
    subst this
    rw [List.getElem_append_right (by omega), List.getElem_append_right (by omega)]
    simp [e, hx]
theorem Inner.length {w : World} {base : Nat} {sl : List Value} {ll : List (List Int)} (h : Inner w base sl ll) : sl.length = ll.length := h.1
/-- one row more of the team 0 (the team 1 has none yet) .. -/
theorem Own4.more0 {w w1 w2 : World} {base : Nat} {v0 x v0' : Value} {s0 : List Value} {la : List (List Int)} {l : List Int} (h : Own4 w base v0 (.slice none 0 0) s0 [] la [])
    (h1 : Below w.heap.size w w1) (hx : w1.ownsRow base 3 1 x l.length (ints l)) (hnew : ∀ b, x.ownBlock = some b → w.heap.size ≤ b)
    (ho : w2.ownsRow base 53 1 v0' (la.length + 1) (s0 ++ [x])) (hg : w1.grownBy w2 v0.ownBlock) :
    Own4 w2 base v0' (.slice none 0 0) (s0 ++ [x]) [] (la ++ [l]) [] := by
  have k := h.be h1
  have ne : ∀ v ∈ s0 ++ [x], v.ownBlock = none ∨ v.ownBlock ≠ v0.ownBlock := fun v hv => by
    have : ∃ n xs, w1.ownsRow base 3 1 v n xs := by
      rcases List.mem_append.1 hv with hv | hv
      · exact k.r0.at_ hv
      · obtain rfl := List.mem_singleton.1 hv; exact ⟨_, _, hx⟩
    obtain ⟨n, xs, hr⟩ := this
    exact (own_own_ne hr k.o0 (by decide)).ne
  refine ⟨by simpa using ho, k.o1.kept hg (.inl rfl), fun b _ h => by simp [Value.ownBlock] at h, (k.r0.snoc hx).kept hg ne, ⟨rfl, fun i h => by simp at h⟩, ?_⟩
  have pw := h.pw
  simp only [List.append_nil] at pw ⊢
  refine List.pairwise_append.2 ⟨pw, by simp, fun a ha b hb => ?_⟩
  obtain rfl := List.mem_singleton.1 hb
  intro g e1 e2
  obtain ⟨n, xs, hr⟩ := h.r0.at_ ha
  have := hr.lt g e1
  have := hnew g e2
  omega
/-- .. and of the team 1 -/
theorem Own4.more1 {w w1 w2 : World} {base : Nat} {v0 v1 x v1' : Value} {s0 s1 : List Value} {la lb : List (List Int)} {l : List Int} (h : Own4 w base v0 v1 s0 s1 la lb)
    (h1 : Below w.heap.size w w1) (hx : w1.ownsRow base 3 1 x l.length (ints l)) (hnew : ∀ b, x.ownBlock = some b → w.heap.size ≤ b)
    (ho : w2.ownsRow base 53 1 v1' (lb.length + 1) (s1 ++ [x])) (hg : w1.grownBy w2 v1.ownBlock) (hat : ∀ b, v1'.ownBlock = some b → v1.ownBlock = some b ∨ w.heap.size ≤ b) :
    Own4 w2 base v0 v1' s0 (s1 ++ [x]) la (lb ++ [l]) := by
  have k := h.be h1
  have ne : ∀ (sl : List Value) (ll : List (List Int)), Inner w1 base sl ll → ∀ v ∈ sl, v.ownBlock = none ∨ v.ownBlock ≠ v1.ownBlock := fun sl ll hi v hv => by
    obtain ⟨n, xs, hr⟩ := hi.at_ hv
    exact (own_own_ne hr k.o1 (by decide)).ne
  refine ⟨k.o0.kept hg k.ap.ne, by simpa using ho, ?_, k.r0.kept hg (ne _ _ k.r0), (k.r1.snoc hx).kept hg (ne _ _ (k.r1.snoc hx)), ?_⟩
  · intro b e1 e2
    rcases hat b e2 with e | e
    · exact h.ap b e1 e
    · have := h.o0.lt b e1; omega
  · rw [← List.append_assoc]
    refine List.pairwise_append.2 ⟨h.pw, by simp, fun a ha b hb => ?_⟩
    obtain rfl := List.mem_singleton.1 hb
    intro g e1 e2
    have := hnew g e2
    rcases List.mem_append.1 ha with ha | ha
    · obtain ⟨n, xs, hr⟩ := h.r0.at_ ha
      have := hr.lt g e1; omega
    · obtain ⟨n, xs, hr⟩ := h.r1.at_ ha
      have := hr.lt g e1; omega
/-- rows that are owned read as rows -/
theorem own_slice {w : World} {base e size n : Nat} {v : Value} {xs : List Value} (h : w.ownsRow base e size v n xs) : ∃ A c, v = .slice A n c ∧ n ≤ c := by
  rcases h.2 with ⟨rfl, rfl⟩ | ⟨g, cap, cur, rfl, _, _, hc, _⟩
  · exact ⟨_, _, rfl, Nat.le_refl _⟩
  · exact ⟨_, _, rfl, hc⟩
theorem rows_own {w : World} {base : Nat} {v : Value} {sl : List Value} {ll : List (List Int)} (h : w.ownsRow base 53 1 v ll.length sl) (hi : Inner w base sl ll) : ∃ A c, v = .slice A ll.length c ∧ Rows w.heap.size w A ll := by
  obtain ⟨A, c, rfl, ha⟩ := Arr.of_own h
  refine ⟨A, c, rfl, ?_⟩
  rcases ha with h0 | ⟨b, o, rfl, hb, hc⟩
  · left
    have := h.1
    rw [h0] at this
    exact List.length_eq_zero_iff.1 (by simpa using this.symm)
  · refine .inr ⟨b, o, rfl, hb, fun i hi2 => ?_⟩
    have e := hi.1
    have hr := hi.2 i (by omega) hi2
    obtain ⟨A', c', hv, hn⟩ := own_slice hr
    have q := hc i (by omega)
    rw [List.getElem?_eq_getElem (by omega), hv] at q
    rw [hv] at hr
    exact ⟨A', c', q, (Arr.own hr).arrB⟩
theorem Own4.args {w : World} {base : Nat} {v0 v1 : Value} {s0 s1 : List Value} {m : Riv} (h : Own4 w base v0 v1 s0 s1 m.a m.b) (sa : Short m.a) (sb : Short m.b) (la : m.a.length < 4294967296) (lb : m.b.length < 4294967296) :
    ∃ A0 A1 c0 c1, v0 = .slice A0 m.a.length c0 ∧ v1 = .slice A1 m.b.length c1 ∧ Args w A0 A1 m := by
  obtain ⟨A0, c0, e0, r0⟩ := rows_own h.o0 h.r0
  obtain ⟨A1, c1, e1, r1⟩ := rows_own h.o1 h.r1
  exact ⟨A0, A1, c0, c1, e0, e1, r0, r1, sa, sb, la, lb⟩
end Go.Proofs.Ytjbgdpbeabakiaa
