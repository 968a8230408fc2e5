/- Chapter 11: rivals in memory of their own; contract of the law's copied. -/
import Derived.Test.YtjbgdpbeabakiaaKJ
import Derived.Test.YtjbgdpbeabakiaaKA
import Derived.Deep.RegionLaw
namespace Go.Proofs.Ytjbgdpbeabakiaa
open Go.RowKit Go.Shelf
set_option linter.unusedVariables false
set_option linter.unusedSimpArgs false
theorem Blk.three {W : World} {b : Nat} {x y z : Value} {T : TypeId} (X : Blk W b #[x, y, z] T) : W.cell? ⟨b, 0, none⟩ = some x ∧ W.cell? ⟨b, 1, none⟩ = some y ∧ W.cell? ⟨b, 2, none⟩ = some z :=
  ⟨by rw [X.cell]; rfl, by rw [X.cell]; rfl, by rw [X.cell]; rfl⟩
theorem Blk.two {W : World} {b : Nat} {x y : Value} {T : TypeId} (X : Blk W b #[x, y] T) : W.cell? ⟨b, 0, none⟩ = some x ∧ W.cell? ⟨b, 1, none⟩ = some y :=
  ⟨by rw [X.cell]; rfl, by rw [X.cell]; rfl⟩
theorem own_blk_ne {w : World} {base g n size : Nat} {e t : TypeId} {v : Value} {xs : List Value} {cs : Array Value} (h : w.ownsRow base e size v n xs) (hg : Blk w g cs t) (hne : e ≠ t) : v.ownBlock ≠ some g := by
  rcases h.2 with ⟨rfl, _⟩ | ⟨g', cap, cur, rfl, _, hh, _⟩
  · simp [Value.ownBlock]
  · intro he
    have : g' = g := by simpa [Value.ownBlock] using he
    subst this
    rw [show w.heap[g']? = _ from hg] at hh
    cases hh
    exact hne rfl
theorem own_own_ne {w : World} {base base' n n' size size' : Nat} {e t : TypeId} {v u : Value} {xs ys : List Value} (h : w.ownsRow base e size v n xs) (k : w.ownsRow base' t size' u n' ys) (hne : e ≠ t) : Apart v u := by
  intro b hb hu
  rcases k.2 with ⟨rfl, _⟩ | ⟨g', cap, cur, rfl, _, hh, _⟩
  · simp [Value.ownBlock] at hu
  · have : g' = b := by simpa [Value.ownBlock] using hu
    subst this
    exact own_blk_ne h (show Blk w g' cur t from hh) hne hb
theorem Apart.symm {u v : Value} (h : Apart u v) : Apart v u := fun b h1 h2 => h b h2 h1
/-- a list's rows, one by one -/
def Inner (w : World) (base : Nat) (sl : List Value) (ll : List (List Int)) : Prop :=
  sl.length = ll.length ∧ ∀ i, (h : i < sl.length) → (h' : i < ll.length) → w.ownsRow base 3 1 sl[i] ll[i].length (ints ll[i])
/-- rivals in memory of their own -/
structure Own4 (w : World) (base : Nat) (v0 v1 : Value) (s0 s1 : List Value) (la lb : List (List Int)) : Prop where
  o0 : w.ownsRow base 53 1 v0 la.length s0
  o1 : w.ownsRow base 53 1 v1 lb.length s1
  ap : Apart v0 v1
  r0 : Inner w base s0 la
  r1 : Inner w base s1 lb
  pw : (s0 ++ s1).Pairwise Apart
theorem Inner.kept {w w' : World} {base : Nat} {sl : List Value} {ll : List (List Int)} {row : Option Nat} (h : Inner w base sl ll) (hg : w.grownBy w' row) (hne : ∀ v ∈ sl, v.ownBlock = none ∨ v.ownBlock ≠ row) : Inner w' base sl ll :=
  ⟨h.1, fun i h1 h2 => (h.2 i h1 h2).kept hg (hne _ (List.getElem_mem h1))⟩
theorem Own4.nil (w : World) (base : Nat) : Own4 w base (.slice none 0 0) (.slice none 0 0) [] [] [] [] :=
  ⟨own_none' _ _ _, own_none' _ _ _, fun b h => by simp [Value.ownBlock] at h, ⟨rfl, fun i h => by simp at h⟩, ⟨rfl, fun i h => by simp at h⟩, by simp⟩
/-- a world in which new blocks are made -/
theorem grown_below {w w' : World} (hb : Below w.heap.size w w') : w.grownBy w' none := ⟨hb.os, hb.tape, hb.output, hb.size, fun k hk _ => hb.block k hk⟩
theorem none_ne (v : Value) : v.ownBlock = none ∨ v.ownBlock ≠ none := by cases v.ownBlock <;> simp
theorem Own4.be {w w' : World} {base : Nat} {v0 v1 : Value} {s0 s1 : List Value} {la lb : List (List Int)} (h : Own4 w base v0 v1 s0 s1 la lb) (hb : Below w.heap.size w w') : Own4 w' base v0 v1 s0 s1 la lb :=
  ⟨h.o0.kept (grown_below hb) (none_ne _), h.o1.kept (grown_below hb) (none_ne _), h.ap, h.r0.kept (grown_below hb) (fun v _ => none_ne v), h.r1.kept (grown_below hb) (fun v _ => none_ne v), h.pw⟩
/-- a store into a block that is none of theirs -/
theorem grown_set (w : World) (a : Addr) (v : Value) : w.grownBy (w.setCell a v) (some a.block) :=
  ⟨rfl, rfl, rfl, by simp [World.setCell], fun k hk hne => Below.heap_setCell _ _ _ _ (fun e => hne (by rw [e]))⟩
theorem Own4.sc {w : World} {base : Nat} {v0 v1 : Value} {s0 s1 : List Value} {la lb : List (List Int)} {a : Addr} {cs : Array Value} {T : TypeId} (h : Own4 w base v0 v1 s0 s1 la lb) (u : Value) (hb : Blk w a.block cs T) (h1 : 3 ≠ T) (h2 : 53 ≠ T) : Own4 (w.setCell a u) base v0 v1 s0 s1 la lb :=
  ⟨h.o0.kept (grown_set w a u) (.inr (own_blk_ne h.o0 hb h2)), h.o1.kept (grown_set w a u) (.inr (own_blk_ne h.o1 hb h2)), h.ap,
    h.r0.kept (grown_set w a u) (fun v hv => by obtain ⟨i, hi, rfl⟩ := List.mem_iff_getElem.1 hv; exact .inr (own_blk_ne (h.r0.2 i hi (by rw [← h.r0.1]; exact hi)) hb h1)),
    h.r1.kept (grown_set w a u) (fun v hv => by obtain ⟨i, hi, rfl⟩ := List.mem_iff_getElem.1 hv; exact .inr (own_blk_ne (h.r1.2 i hi (by rw [← h.r1.1]; exact hi)) hb h1)), h.pw⟩
theorem Inner.at_ {w : World} {base : Nat} {sl : List Value} {ll : List (List Int)} (h : Inner w base sl ll) {v : Value} (hv : v ∈ sl) : ∃ n xs, w.ownsRow base 3 1 v n xs := by
  obtain ⟨i, hi, rfl⟩ := List.mem_iff_getElem.1 hv
  exact ⟨_, _, h.2 i hi (by rw [← h.1]; exact hi)⟩
theorem Inner.snoc {w : World} {base : Nat} {sl : List Value} {ll : List (List Int)} {x : Value} {l : List Int} (h : Inner w base sl ll) (hx : w.ownsRow base 3 1 x l.length (ints l)) : Inner w base (sl ++ [x]) (ll ++ [l]) := by
  refine ⟨by simp [h.1], fun i h1 h2 => ?_⟩
  have e := h.1
  by_cases hi : i < sl.length
  · have := h.2 i hi (by omega)
    rw [List.getElem_append_left hi, List.getElem_append_left (by omega)]; exact this
  · have : i = sl.length := by simp at h1; omega
    subst this
    rw [List.getElem_append_right (by omega), List.getElem_append_right (by omega)]
    simp [e, hx]
theorem Inner.length {w : World} {base : Nat} {sl : List Value} {ll : List (List Int)} (h : Inner w base sl ll) : sl.length = ll.length := h.1
/-- one row more of the team 0 (the team 1 has none yet) .. -/
theorem Own4.more0 {w w1 w2 : World} {base : Nat} {v0 x v0' : Value} {s0 : List Value} {la : List (List Int)} {l : List Int} (h : Own4 w base v0 (.slice none 0 0) s0 [] la [])
    (h1 : Below w.heap.size w w1) (hx : w1.ownsRow base 3 1 x l.length (ints l)) (hnew : ∀ b, x.ownBlock = some b → w.heap.size ≤ b)
    (ho : w2.ownsRow base 53 1 v0' (la.length + 1) (s0 ++ [x])) (hg : w1.grownBy w2 v0.ownBlock) :
    Own4 w2 base v0' (.slice none 0 0) (s0 ++ [x]) [] (la ++ [l]) [] := by
  have k := h.be h1
  have ne : ∀ v ∈ s0 ++ [x], v.ownBlock = none ∨ v.ownBlock ≠ v0.ownBlock := fun v hv => by
    have : ∃ n xs, w1.ownsRow base 3 1 v n xs := by
      rcases List.mem_append.1 hv with hv | hv
      · exact k.r0.at_ hv
      · obtain rfl := List.mem_singleton.1 hv; exact ⟨_, _, hx⟩
    obtain ⟨n, xs, hr⟩ := this
    exact (own_own_ne hr k.o0 (by decide)).ne
  refine ⟨by simpa using ho, k.o1.kept hg (.inl rfl), fun b _ h => by simp [Value.ownBlock] at h, (k.r0.snoc hx).kept hg ne, ⟨rfl, fun i h => by simp at h⟩, ?_⟩
  have pw := h.pw
  simp only [List.append_nil] at pw ⊢
  refine List.pairwise_append.2 ⟨pw, by simp, fun a ha b hb => ?_⟩
  obtain rfl := List.mem_singleton.1 hb
  intro g e1 e2
  obtain ⟨n, xs, hr⟩ := h.r0.at_ ha
  have := hr.lt g e1
  have := hnew g e2
  omega
/-- .. and of the team 1 -/
theorem Own4.more1 {w w1 w2 : World} {base : Nat} {v0 v1 x v1' : Value} {s0 s1 : List Value} {la lb : List (List Int)} {l : List Int} (h : Own4 w base v0 v1 s0 s1 la lb)
    (h1 : Below w.heap.size w w1) (hx : w1.ownsRow base 3 1 x l.length (ints l)) (hnew : ∀ b, x.ownBlock = some b → w.heap.size ≤ b)
    (ho : w2.ownsRow base 53 1 v1' (lb.length + 1) (s1 ++ [x])) (hg : w1.grownBy w2 v1.ownBlock) (hat : ∀ b, v1'.ownBlock = some b → v1.ownBlock = some b ∨ w.heap.size ≤ b) :
    Own4 w2 base v0 v1' s0 (s1 ++ [x]) la (lb ++ [l]) := by
  have k := h.be h1
  have ne : ∀ (sl : List Value) (ll : List (List Int)), Inner w1 base sl ll → ∀ v ∈ sl, v.ownBlock = none ∨ v.ownBlock ≠ v1.ownBlock := fun sl ll hi v hv => by
    obtain ⟨n, xs, hr⟩ := hi.at_ hv
    exact (own_own_ne hr k.o1 (by decide)).ne
  refine ⟨k.o0.kept hg k.ap.ne, by simpa using ho, ?_, k.r0.kept hg (ne _ _ k.r0), (k.r1.snoc hx).kept hg (ne _ _ (k.r1.snoc hx)), ?_⟩
  · intro b e1 e2
    rcases hat b e2 with e | e
    · exact h.ap b e1 e
    · have := h.o0.lt b e1; omega
  · rw [← List.append_assoc]
    refine List.pairwise_append.2 ⟨h.pw, by simp, fun a ha b hb => ?_⟩
    obtain rfl := List.mem_singleton.1 hb
    intro g e1 e2
    have := hnew g e2
    rcases List.mem_append.1 ha with ha | ha
    · obtain ⟨n, xs, hr⟩ := h.r0.at_ ha
      have := hr.lt g e1; omega
    · obtain ⟨n, xs, hr⟩ := h.r1.at_ ha
      have := hr.lt g e1; omega
/-- rows that are owned read as rows -/
theorem own_slice {w : World} {base e size n : Nat} {v : Value} {xs : List Value} (h : w.ownsRow base e size v n xs) : ∃ A c, v = .slice A n c ∧ n ≤ c := by
  rcases h.2 with ⟨rfl, rfl⟩ | ⟨g, cap, cur, rfl, _, _, hc, _⟩
  · exact ⟨_, _, rfl, Nat.le_refl _⟩
  · exact ⟨_, _, rfl, hc⟩
theorem rows_own {w : World} {base : Nat} {v : Value} {sl : List Value} {ll : List (List Int)} (h : w.ownsRow base 53 1 v ll.length sl) (hi : Inner w base sl ll) : ∃ A c, v = .slice A ll.length c ∧ Rows w.heap.size w A ll := by
  obtain ⟨A, c, rfl, ha⟩ := Arr.of_own h
  refine ⟨A, c, rfl, ?_⟩
  rcases ha with h0 | ⟨b, o, rfl, hb, hc⟩
  · left
    have := h.1
    rw [h0] at this
    exact List.length_eq_zero_iff.1 (by simpa using this.symm)
  · refine .inr ⟨b, o, rfl, hb, fun i hi2 => ?_⟩
    have e := hi.1
    have hr := hi.2 i (by omega) hi2
    obtain ⟨A', c', hv, hn⟩ := own_slice hr
    have q := hc i (by omega)
    rw [List.getElem?_eq_getElem (by omega), hv] at q
    rw [hv] at hr
    exact ⟨A', c', q, (Arr.own hr).arrB⟩
theorem Own4.args {w : World} {base : Nat} {v0 v1 : Value} {s0 s1 : List Value} {m : Riv} (h : Own4 w base v0 v1 s0 s1 m.a m.b) (sa : Short m.a) (sb : Short m.b) (la : m.a.length < 4294967296) (lb : m.b.length < 4294967296) :
    ∃ A0 A1 c0 c1, v0 = .slice A0 m.a.length c0 ∧ v1 = .slice A1 m.b.length c1 ∧ Args w A0 A1 m := by
  obtain ⟨A0, c0, e0, r0⟩ := rows_own h.o0 h.r0
  obtain ⟨A1, c1, e1, r1⟩ := rows_own h.o1 h.r1
  exact ⟨A0, A1, c0, c1, e0, e1, r0, r1, sa, sb, la, lb⟩
end Go.Proofs.Ytjbgdpbeabakiaa
namespace Go.Proofs.Ytjbgdpbeabakiaa
open Go.RowKit Go.Shelf
set_option linter.unusedVariables false
set_option linter.unusedSimpArgs false
theorem Try.infoR : (Try.prog.info? 53).map (fun i => (i.zero, i.size, i.bytes)) = some (some (.slice none 0 0), 1, 24) := by kernel_rfl
section
variable {P : Program} (w : World)
/-- nothing is appended -/
theorem run_append_nothing (base : Nat) (t ty e : TypeId) (i : TypeInfo) (size : Nat) (ht : P.underlying t = some (.slice e)) (hi : P.info? e = some i)
    (v : Value) (n : Nat) (xs : List Value) (hown : w.ownsRow base e size v n xs) (c : Nat) : (Builtin.append_ #[t, t] ty #[v, .slice none 0 c]).run P w = .ok v w := by
  rcases hown.2 with ⟨rfl, rfl⟩ | ⟨g, cap, cur, rfl, _, _, hnc, _⟩ <;> simp [Builtin.append_, run_underlying ht, sizeOf, typeInfo, hi, Builtin.lenOf, Builtin.firstCells, storeCells, *]
/-- append of a row that reads as a list, empty or not, onto a row of the call's own, at a step of a region that draws its order -/
theorem step_append_arr {ops : Array Oper} {o : Oper} {a : Act} {K : Act → World → Prop} {Q : Exit → Act → World → Prop} {E : Prop} (hgd : o.guard = none) (s x : Operand) (t : TypeId)
    (ho : o.op = .call { callee := .builtin .append, args := #[s, x], argTypes := #[t, t] })
    (base : Nat) (e : TypeId) (i : TypeInfo) (z : Value) (bytes : Nat) (ht : P.underlying t = some (.slice e)) (hi : P.info? e = some i) (hz : i.zero = some z)
    (hsize : i.size = 1) (hby : i.bytes = bytes) (hzs : z.cells.size = 1)
    (v : Value) (n : Nat) (xs : List Value) (hs : a.eval s = v) (hown : w.ownsRow base e 1 v n xs)
    (A : Option Addr) (m c : Nat) (news : List Value) (hx : a.eval x = .slice A m c) (hm : news.length = m) (hA : A = none → m = 0) (hr : Arr w A news) (h1 : ∀ u ∈ news, u.oneCell' = true)
    (h63 : n + m ≤ maxLen) (hbytes : (n + m) * bytes ≤ 140737488355328) (hbase : base ≤ w.heap.size)
    (h : ∀ v' w', w'.ownsRow base e 1 v' (n + m) (xs ++ news) → w.grownBy w' v.ownBlock → (v'.ownBlock = v.ownBlock ∨ v'.ownBlock = some w.heap.size) → K (a.put o.dst v') w') :
    if Region.wanted o (yielded ops a.tmps) = true then Oper.wp P o a w K Q else E := by
  have hw : Region.wanted o (yielded ops a.tmps) = true := by simp [Region.wanted, hgd]
  rw [if_pos hw]
  have key : ∃ v' w', (Builtin.append_ #[t, t] o.type #[v, .slice A m c]).run P w = .ok v' w' ∧ w'.ownsRow base e 1 v' (n + m) (xs ++ news) ∧ w.grownBy w' v.ownBlock ∧ (v'.ownBlock = v.ownBlock ∨ v'.ownBlock = some w.heap.size) := by
    cases A with
    | none =>
      obtain rfl := hA rfl
      obtain rfl := List.length_eq_zero_iff.1 hm
      exact ⟨v, w, run_append_nothing w base t o.type e i 1 ht hi v n xs hown c, by simpa using hown, ⟨rfl, rfl, rfl, Nat.le_refl _, fun _ _ _ => rfl⟩, .inl rfl⟩
    | some ad =>
      obtain ⟨v', w', hrun, h2, h3, _, h5⟩ := run_append_own_at (P := P) w base t o.type e i z 1 bytes ht hi hz hsize hby hzs (by omega) v n xs hown ad m c news (by omega) (World.news_of_arr hr) h1 h63 hbytes hbase
      exact ⟨v', w', hrun, h2, h3, h5⟩
  obtain ⟨v', w', hrun, h2, h3, h4⟩ := key
  unfold Oper.wp execOp
  simp only [ho, resolve, invoke, builtin, Sem.run_bind, Sem.run_pure, Result.andThen_ok, List.map_toArray, List.map_cons, List.map_nil, hs, hx, hrun]
  exact h v' w' h2 h3 h4
end
theorem Rows.short_none {w : World} {A : Option Addr} {l : List Int} (h : Arr w A (ints l)) : A = none → l.length = 0 := by
  rintro rfl
  rcases h with h | ⟨b, o, hA, _⟩
  · simpa [ints] using h
  · cases hA
/-- what copied leaves -/
def CopiedPost (m : Riv) (w : World) (e : Ending) (w' : World) : Prop :=
  ∃ v0 v1 s0 s1, e = .returned (.agg #[.int .i64 m.d, v0, v1]) ∧ Own4 w' w.heap.size v0 v1 s0 s1 m.a m.b ∧ Below w.heap.size w w'
/-- where copied stands: the rows of both teams so far -/
structure Cop (m : Riv) (w : World) (la lb : List (List Int)) (v0 v1 : Value) (s0 s1 : List Value) (wr : World) : Prop where
  o : Own4 wr w.heap.size v0 v1 s0 s1 la lb
  x : Blk wr (w.heap.size + 1 + 1) #[.int .i64 m.d, v0, v1] 25
  z : Blk wr (w.heap.size + 1) #[.int .i64 0, .slice none 0 0, .slice none 0 0] 25
  b : Below w.heap.size w wr
def Cop0 (m : Riv) (w : World) (la : List (List Int)) (wr : World) : Prop := ∃ v0 s0, Cop m w la [] v0 (.slice none 0 0) s0 [] wr
def Cop1 (m : Riv) (w : World) (la lb : List (List Int)) (wr : World) : Prop := ∃ v0 v1 s0 s1, Cop m w la lb v0 v1 s0 s1 wr
theorem made_ge {w : World} {x : Value} {H : Nat} (h : x.ownBlock = (Value.slice (some ⟨w.heap.size, 0, none⟩) 0 0).ownBlock ∨ x.ownBlock = some H) (hH : w.heap.size ≤ H) : ∀ b, x.ownBlock = some b → w.heap.size ≤ b := by
  intro b hb
  rcases h with h | h <;> rw [h] at hb <;> simp [Value.ownBlock] at hb <;> omega
theorem len_take {l : List (List Int)} {k : Nat} (hk : k ≤ l.length) {W : World} {B : Nat} {v : Value} {xs : List Value} : W.ownsRow B 53 1 v (k + 1) xs → W.ownsRow B 53 1 v ((l.take k).length + 1) xs := fun h => by rwa [List.length_take_of_le hk]
theorem cop_rest {w wr wx wy : World} {u : Value} {T : TypeId} {b n : Nat} {cs : Array Value} {xs : List Value} {o : Obj} {a : Addr} {y : Value} (hu : wr.ownsRow w.heap.size 53 1 u n xs) (X : Blk wr b cs T) (hT : 53 ≠ T) (BX : Below wr.heap.size wr wx) (hgy : (wx.alloc o).grownBy wy u.ownBlock) (hba : b ≠ a.block) : Blk (wy.setCell a y) b cs T :=
  (((X.be BX).al o).grown hgy (own_blk_ne hu X hT)).other a y hba
theorem cop_below {w wr wx wy : World} {u : Value} {n : Nat} {xs : List Value} {o : Obj} {a : Addr} {y : Value} (hu : wr.ownsRow w.heap.size 53 1 u n xs) (HB : Below w.heap.size w wr) (BX : Below wr.heap.size wr wx) (hgy : (wx.alloc o).grownBy wy u.ownBlock) (ha : w.heap.size ≤ a.block) : Below w.heap.size w (wy.setCell a y) :=
  Below.sc (Below.grown (Below.al (Below.th HB BX) o) hgy (by have := (Below.th HB BX).size; simp; omega) (fun k hk => (hu.lt k hk).1)) ha y
theorem cop0_step {m : Riv} {w wr wx wy : World} {v0 : Value} {s0 : List Value} {k H : Nat} {l : List Int} {Ax Ay : Option Addr} {cx cy : Nat}
    (HO : Own4 wr w.heap.size v0 (.slice none 0 0) s0 [] (m.a.take k) []) (hk : k ≤ m.a.length) (XZ : Blk wr (w.heap.size + 1) #[.int .i64 0, .slice none 0 0, .slice none 0 0] 25) (HB : Below w.heap.size w wr) (BX : Below wr.heap.size wr wx)
    (hox : wx.ownsRow w.heap.size 3 1 (.slice Ax l.length cx) l.length (ints l)) (hax : (Value.slice Ax l.length cx).ownBlock = (Value.slice (some ⟨wr.heap.size, 0, none⟩) 0 0).ownBlock ∨ (Value.slice Ax l.length cx).ownBlock = some H) (hH : wr.heap.size ≤ H)
    (hoy : wy.ownsRow w.heap.size 53 1 (.slice Ay (k + 1) cy) (k + 1) (s0 ++ [.slice Ax l.length cx])) (hgy : (wx.alloc (.cells #[.slice Ax l.length cx] 53)).grownBy wy v0.ownBlock)
    (XY : Blk wy (w.heap.size + 1 + 1) #[.int .i64 m.d, v0, .slice none 0 0] 25) (HT : m.a.take (k + 1) = m.a.take k ++ [l]) :
    Cop0 m w (m.a.take (k + 1)) (wy.setCell ⟨w.heap.size + 1 + 1, 1, none⟩ (.slice Ay (k + 1) cy)) := by
  refine ⟨_, s0 ++ [.slice Ax l.length cx], ?_, by simpa using XY.set 1 (.slice Ay (k + 1) cy), cop_rest HO.o0 XZ (by decide) BX hgy (by simp), cop_below HO.o0 HB BX hgy (by simp; omega)⟩
  rw [HT]
  exact (HO.more0 (Below.al' BX _) (hox.alloc _) (made_ge hax hH) (len_take hk hoy) hgy).sc (a := ⟨w.heap.size + 1 + 1, 1, none⟩) _ XY (by decide) (by decide)
theorem cop1_step {m : Riv} {w wr wx wy : World} {v0 v1 : Value} {s0 s1 : List Value} {k H H' : Nat} {l : List Int} {Ax Ay : Option Addr} {cx cy : Nat}
    (HO : Own4 wr w.heap.size v0 v1 s0 s1 m.a (m.b.take k)) (hk : k ≤ m.b.length) (XZ : Blk wr (w.heap.size + 1) #[.int .i64 0, .slice none 0 0, .slice none 0 0] 25) (HB : Below w.heap.size w wr) (BX : Below wr.heap.size wr wx)
    (hox : wx.ownsRow w.heap.size 3 1 (.slice Ax l.length cx) l.length (ints l)) (hax : (Value.slice Ax l.length cx).ownBlock = (Value.slice (some ⟨wr.heap.size, 0, none⟩) 0 0).ownBlock ∨ (Value.slice Ax l.length cx).ownBlock = some H) (hH : wr.heap.size ≤ H)
    (hoy : wy.ownsRow w.heap.size 53 1 (.slice Ay (k + 1) cy) (k + 1) (s1 ++ [.slice Ax l.length cx])) (hgy : (wx.alloc (.cells #[.slice Ax l.length cx] 53)).grownBy wy v1.ownBlock)
    (hay : (Value.slice Ay (k + 1) cy).ownBlock = v1.ownBlock ∨ (Value.slice Ay (k + 1) cy).ownBlock = some H') (hH' : wr.heap.size ≤ H')
    (XY : Blk wy (w.heap.size + 1 + 1) #[.int .i64 m.d, v0, v1] 25) (HT : m.b.take (k + 1) = m.b.take k ++ [l]) :
    Cop1 m w m.a (m.b.take (k + 1)) (wy.setCell ⟨w.heap.size + 1 + 1, 2, none⟩ (.slice Ay (k + 1) cy)) := by
  refine ⟨_, _, s0, s1 ++ [.slice Ax l.length cx], ?_, by simpa using XY.set 2 (.slice Ay (k + 1) cy), cop_rest HO.o1 XZ (by decide) BX hgy (by simp), cop_below HO.o1 HB BX hgy (by simp; omega)⟩
  rw [HT]
  refine (HO.more1 (Below.al' BX _) (hox.alloc _) (made_ge hax hH) (len_take hk hoy) hgy fun b hb => ?_).sc (a := ⟨w.heap.size + 1 + 1, 2, none⟩) _ XY (by decide) (by decide)
  rcases hay with h | h
  · rw [h] at hb; exact .inl hb
  · rw [h] at hb; right; have : H' = b := by simpa using hb
    omega
set_option maxHeartbeats 8000000 in
set_option maxRecDepth 100000 in
theorem copied_c (A0 A1 : Option Addr) (c0 c1 : Nat) (m : Riv) (w : World) (ha : Args w A0 A1 m) (la : m.a.length ≤ 9) (lb : m.b.length ≤ 9) :
    Calls Try.prog 20 #[rivV m A0 A1 c0 c1] w (CopiedPost m w) := by
  obtain ⟨iI, hiI, hzI0, hzI1, hzI2⟩ := info_parts Try.infoI
  obtain ⟨iR, hiR, hzR0, hzR1, hzR2⟩ := info_parts Try.infoR
  have hia0 : ∀ (x y : Value) (w : World), (Instr.index 23 (.agg #[x, y]) (.int .i64 0)).run Try.prog w = .ok x w := fun x y w => by kernel_rfl
  have hia1 : ∀ (x y : Value) (w : World), (Instr.index 23 (.agg #[x, y]) (.int .i64 1)).run Try.prog w = .ok y w := fun x y w => by kernel_rfl
  have HAA := Aside.mk ha
  have HMA := Lib.hid la
  have HMB := Lib.hid lb
  unfold rivV
  clear ha la lb
  go_enter Try.func20, Try.ntmps20
  go_wp2_with fail
  have X3 : Blk (((w.alloc (.cells #[.int .i64 m.d, .slice A0 m.a.length c0, .slice A1 m.b.length c1] 25)).alloc (.cells #[.int .i64 0, .slice none 0 0, .slice none 0 0] 25)).alloc (.cells #[.int .i64 m.d, .slice none 0 0, .slice none 0 0] 25)) (w.heap.size + 1 + 1) #[.int .i64 m.d, .slice none 0 0, .slice none 0 0] 25 := Blk.fresh' (by simp)
  have X2 : Blk (((w.alloc (.cells #[.int .i64 m.d, .slice A0 m.a.length c0, .slice A1 m.b.length c1] 25)).alloc (.cells #[.int .i64 0, .slice none 0 0, .slice none 0 0] 25)).alloc (.cells #[.int .i64 m.d, .slice none 0 0, .slice none 0 0] 25)) (w.heap.size + 1) #[.int .i64 0, .slice none 0 0, .slice none 0 0] 25 := (Blk.fresh' (by simp)).al _
  have HB : Below w.heap.size w (((w.alloc (.cells #[.int .i64 m.d, .slice A0 m.a.length c0, .slice A1 m.b.length c1] 25)).alloc (.cells #[.int .i64 0, .slice none 0 0, .slice none 0 0] 25)).alloc (.cells #[.int .i64 m.d, .slice none 0 0, .slice none 0 0] 25)) := (by repeat (with_reducible first | exact Below.refl _ _ | assumption | refine Below.al ?_ _ | refine Below.dr ?_ | refine Below.drn ?_ _ | refine Below.sc ?_ (by simp <;> omega) _ | refine Below.th ?_ (by assumption)))
  generalize ((w.alloc (.cells #[.int .i64 m.d, .slice A0 m.a.length c0, .slice A1 m.b.length c1] 25)).alloc (.cells #[.int .i64 0, .slice none 0 0, .slice none 0 0] 25)).alloc (.cells #[.int .i64 m.d, .slice none 0 0, .slice none 0 0] 25) = v at *
  have HC0 : Aside (Cop0 m w [] v) := ⟨_, _, Own4.nil _ _, X3, X2, HB⟩
  clear X3 X2 HB
  go_loopw [13] (fun i wr => (i = .int .i64 0 ∧ Aside (Cop0 m w [] wr)) ∨ (i = .int .i64 1 ∧ Aside (Cop0 m w m.a wr)) ∨ (i = .int .i64 2 ∧ Aside (Cop1 m w m.a m.b wr))) (fun i _ => 2 - (intOf i).toNat)
  case atStart => exact .inl ⟨rfl, HC0⟩
  case round =>
    rcases hrel with ⟨rfl, HC⟩ | ⟨rfl, HC⟩ | ⟨rfl, HC⟩
    · clear HC0
      go_wp2_with fail
      rename_i W0
      go_loopw [19] (fun i wr => ∃ k : Nat, k ≤ m.a.length ∧ i = .int .i64 k ∧ Aside (Cop0 m w (m.a.take k) wr)) (fun i _ => m.a.length - (intOf i).toNat)
      case atStart => exact ⟨0, by omega, rfl, by simpa using HC⟩
      case round =>
        obtain ⟨k, hk, rfl, HK⟩ := hrel
        by_cases hlt : k < m.a.length
        · obtain ⟨v0, s0, HO, XB, XZ, HB⟩ := HK.out
          obtain ⟨b, o, A', c', hA, hb, hcell, hr⟩ := (HAA.out.ra.below HB).at hlt
          have h60 := HAA.out.sa k hlt
          have HA := Lib.hid hA
          have HT := Lib.hid (take_snoc' m.a k hlt)
          have hbs := HB.size
          have hr := hr.arr hbs
          generalize m.a[k] = l at *
          have hm9 := HMA.out
          have HO := Aside.mk HO
          have x0 := XB.three.1
          have x1 := XB.three.2.1
          have hb' : b < wr.heap.size := by omega
          subst hA
          clear HK HC
          go_wp2_with fail
          have O28 := Aside.mk (own_made wr 3 w.heap.size hbs).drew
          have AR := Aside.mk ((hr.al (.cells #[] 3)).below (Below.dr (Below.refl _ _)))
          have HNONE := Aside.mk (Rows.short_none hr)
          have NB : ¬ wr.heap.size = w.heap.size + 1 + 1 := by have := XB.lt; omega
          have BM := Aside.mk (show Below wr.heap.size wr (wr.alloc (.cells #[] 3)).drew from (by repeat (with_reducible first | exact Below.refl _ _ | assumption | refine Below.al ?_ _ | refine Below.dr ?_ | refine Below.drn ?_ _ | refine Below.sc ?_ (by simp <;> omega) _ | refine Below.th ?_ (by assumption))))
          have hxb := XB.lt
          have HLK : Aside (∀ {W : World} {v : Value} {xs : List Value}, W.ownsRow w.heap.size 53 1 v (m.a.take k).length xs → W.ownsRow w.heap.size 53 1 v k xs) := ⟨fun h => by rwa [List.length_take_of_le hk] at h⟩
          clear hr
          go_region_law
            (first
              | ((refine step_append_arr _ (by rfl) (.tmp 28) (.tmp 29) 53 (by rfl) w.heap.size 3 iI (.int .i64 0) 8 Try.underlying53 hiI hzI0 hzI1 hzI2 rfl (.slice (some ⟨wr.heap.size, 0, none⟩) 0 0) 0 [] (by rfl) O28.out A' l.length c' (ints l) (by rfl) (ints_length l) HNONE.out AR.out (ints_oneCell .i64 l) (by unfold maxLen; omega) (by omega) (by first | (simp; omega) | omega) ?_); intro vx wx hox hgx hax; obtain ⟨Ax, cx, rfl, _⟩ := own_slice hox; simp only [Nat.zero_add, List.nil_append] at hox hax ⊢; have XX := ((XB.al (.cells #[] 3)).dr).grown hgx (by simp [Value.ownBlock]; omega); have d1 := XX.three.2.1; have d2 := (XX.al (.cells #[.slice Ax l.length cx] 53)).three.2.1; have d3 := XX.lt; have BX : Below wr.heap.size wr wx := Below.grown BM.out hgx (by simp) (fun k hk => by simp [Value.ownBlock] at hk; omega); have hxs := BX.size; have OX := Aside.mk (HLK.out (HO.out.o0.kept (grown_below BX) (none_ne _))); have hox := Aside.mk hox; have hax := Aside.mk hax; clear hgx)
              | ((refine step_append_arr _ (by rfl) (.tmp 27) (.tmp 31) 22 (by rfl) w.heap.size 53 iR (.slice none 0 0) 24 Try.underlying22 hiR hzR0 hzR1 hzR2 rfl v0 k s0 (by rfl) (OX.out.alloc _) (some ⟨wx.heap.size, 0, none⟩) 1 1 [.slice Ax l.length cx] (by rfl) (by rfl) (by simp) (Arr.fresh _ _ _ _) (by simp [Value.oneCell']) (by unfold maxLen; omega) (by omega) (by first | (simp; omega) | omega) ?_); intro vy wy hoy hgy hay; obtain ⟨Ay, cy, rfl, _⟩ := own_slice hoy; have XY := (XX.al (.cells #[.slice Ax l.length cx] 53)).grown hgy (own_blk_ne OX.out XX (by decide)); have d4 := XY.three.2.1; have f2 := XY.frozen 1; have l2 := XY.lt; have hoy := Aside.mk hoy; have hgy := Aside.mk hgy; have hay := Aside.mk hay))
          all_goals
            have HM : Aside (Cop0 m w (m.a.take (k + 1)) (wy.setCell ⟨w.heap.size + 1 + 1, 1, none⟩ (.slice Ay (k + 1) cy))) := ⟨cop0_step HO.out hk XZ HB BX hox.out hax.out (by simp) hoy.out hgy.out XY HT.out⟩
            clear HO XX XY hox hax hoy hgy hay XB XZ BX OX
            go_wp2
            go_roundw
            case rel => exact ⟨k + 1, by omega, by go_num, HM⟩
            case measure => simp [intOf]; omega
        · obtain rfl : k = m.a.length := by omega
          rw [List.take_length] at HK
          go_wp2
          go_roundw
          case rel => exact .inr (.inl ⟨by go_num, HK⟩)
          case measure => simp [intOf]
    · clear HC0
      go_wp2_with fail
      rename_i W0
      go_loopw [19] (fun i wr => ∃ k : Nat, k ≤ m.b.length ∧ i = .int .i64 k ∧ Aside (Cop1 m w m.a (m.b.take k) wr)) (fun i _ => m.b.length - (intOf i).toNat)
      case atStart => exact ⟨0, by omega, rfl, ⟨by obtain ⟨v0, s0, h⟩ := HC.out; exact ⟨_, _, _, _, by simpa using h⟩⟩⟩
      case round =>
        obtain ⟨k, hk, rfl, HK⟩ := hrel
        by_cases hlt : k < m.b.length
        · obtain ⟨v0, v1, s0, s1, HO, XB, XZ, HB⟩ := HK.out
          obtain ⟨b, o, A', c', hA, hb, hcell, hr⟩ := (HAA.out.rb.below HB).at hlt
          have h60 := HAA.out.sb k hlt
          have HA := Lib.hid hA
          have HT := Lib.hid (take_snoc' m.b k hlt)
          have hbs := HB.size
          have hr := hr.arr hbs
          generalize m.b[k] = l at *
          have hm9 := HMB.out
          have HO := Aside.mk HO
          have x0 := XB.three.1
          have x1 := XB.three.2.2
          have hb' : b < wr.heap.size := by omega
          subst hA
          clear HK HC
          go_wp2_with fail
          have O28 := Aside.mk (own_made wr 3 w.heap.size hbs).drew
          have AR := Aside.mk ((hr.al (.cells #[] 3)).below (Below.dr (Below.refl _ _)))
          have HNONE := Aside.mk (Rows.short_none hr)
          have NB : ¬ wr.heap.size = w.heap.size + 1 + 1 := by have := XB.lt; omega
          have BM := Aside.mk (show Below wr.heap.size wr (wr.alloc (.cells #[] 3)).drew from (by repeat (with_reducible first | exact Below.refl _ _ | assumption | refine Below.al ?_ _ | refine Below.dr ?_ | refine Below.drn ?_ _ | refine Below.sc ?_ (by simp <;> omega) _ | refine Below.th ?_ (by assumption))))
          have hxb := XB.lt
          have HLK : Aside (∀ {W : World} {v : Value} {xs : List Value}, W.ownsRow w.heap.size 53 1 v (m.b.take k).length xs → W.ownsRow w.heap.size 53 1 v k xs) := ⟨fun h => by rwa [List.length_take_of_le hk] at h⟩
          clear hr
          go_region_law
            (first
              | ((refine step_append_arr _ (by rfl) (.tmp 28) (.tmp 29) 53 (by rfl) w.heap.size 3 iI (.int .i64 0) 8 Try.underlying53 hiI hzI0 hzI1 hzI2 rfl (.slice (some ⟨wr.heap.size, 0, none⟩) 0 0) 0 [] (by rfl) O28.out A' l.length c' (ints l) (by rfl) (ints_length l) HNONE.out AR.out (ints_oneCell .i64 l) (by unfold maxLen; omega) (by omega) (by first | (simp; omega) | omega) ?_); intro vx wx hox hgx hax; obtain ⟨Ax, cx, rfl, _⟩ := own_slice hox; simp only [Nat.zero_add, List.nil_append] at hox hax ⊢; have XX := ((XB.al (.cells #[] 3)).dr).grown hgx (by simp [Value.ownBlock]; omega); have d1 := XX.three.2.2; have d2 := (XX.al (.cells #[.slice Ax l.length cx] 53)).three.2.2; have d3 := XX.lt; have BX : Below wr.heap.size wr wx := Below.grown BM.out hgx (by simp) (fun k hk => by simp [Value.ownBlock] at hk; omega); have hxs := BX.size; have OX := Aside.mk (HLK.out (HO.out.o1.kept (grown_below BX) (none_ne _))); have hox := Aside.mk hox; have hax := Aside.mk hax; clear hgx)
              | ((refine step_append_arr _ (by rfl) (.tmp 27) (.tmp 31) 22 (by rfl) w.heap.size 53 iR (.slice none 0 0) 24 Try.underlying22 hiR hzR0 hzR1 hzR2 rfl v1 k s1 (by rfl) (OX.out.alloc _) (some ⟨wx.heap.size, 0, none⟩) 1 1 [.slice Ax l.length cx] (by rfl) (by rfl) (by simp) (Arr.fresh _ _ _ _) (by simp [Value.oneCell']) (by unfold maxLen; omega) (by omega) (by first | (simp; omega) | omega) ?_); intro vy wy hoy hgy hay; obtain ⟨Ay, cy, rfl, _⟩ := own_slice hoy; have XY := (XX.al (.cells #[.slice Ax l.length cx] 53)).grown hgy (own_blk_ne OX.out XX (by decide)); have d4 := XY.three.2.2; have f2 := XY.frozen 2; have l2 := XY.lt; have hoy := Aside.mk hoy; have hgy := Aside.mk hgy; have hay := Aside.mk hay))
          all_goals
            have HM : Aside (Cop1 m w m.a (m.b.take (k + 1)) (wy.setCell ⟨w.heap.size + 1 + 1, 2, none⟩ (.slice Ay (k + 1) cy))) := ⟨cop1_step HO.out hk XZ HB BX hox.out hax.out (by simp) hoy.out hgy.out hay.out (by simp; omega) XY HT.out⟩
            clear HO XX XY hox hax hoy hgy hay XB XZ BX OX
            go_wp2
            go_roundw
            case rel => exact ⟨k + 1, by omega, by go_num, HM⟩
            case measure => simp [intOf]; omega
        · obtain rfl : k = m.b.length := by omega
          rw [List.take_length] at HK
          go_wp2
          go_roundw
          case rel => exact .inr (.inr ⟨by go_num, HK⟩)
          case measure => simp [intOf]
    · clear HC0
      obtain ⟨v0, v1, s0, s1, HO, XB, XZ, HB⟩ := HC.out
      obtain ⟨Ax, cx, rfl, _⟩ := own_slice HO.o0
      obtain ⟨Ay, cy, rfl, _⟩ := own_slice HO.o1
      have HO := Aside.mk HO
      obtain ⟨x0, x1, x2⟩ := XB.three
      obtain ⟨z0, z1, z2⟩ := XZ.three
      have f0 := XZ.frozen 0
      have f1 := XZ.frozen 1
      have f2 := XZ.frozen 2
      have HP : Aside (∀ W, Own4 W w.heap.size (.slice Ax m.a.length cx) (.slice Ay m.b.length cy) s0 s1 m.a m.b → Below w.heap.size w W → CopiedPost m w (.returned (.agg #[.int .i64 m.d, .slice Ax m.a.length cx, .slice Ay m.b.length cy])) W) := ⟨fun W h hb => ⟨_, _, _, _, rfl, h, hb⟩⟩
      have HXZ := Aside.mk XZ
      have HBB := Aside.mk HB
      have ZL := XZ.lt
      have HD : Own4 (((wr.setCell ⟨w.heap.size + 1, 0, none⟩ (.int .i64 m.d)).setCell ⟨w.heap.size + 1, 1, none⟩ (.slice Ax m.a.length cx)).setCell ⟨w.heap.size + 1, 2, none⟩ (.slice Ay m.b.length cy)) w.heap.size (.slice Ax m.a.length cx) (.slice Ay m.b.length cy) s0 s1 m.a m.b :=
        ((HO.out.sc (a := ⟨w.heap.size + 1, 0, none⟩) _ XZ (by decide) (by decide)).sc (a := ⟨w.heap.size + 1, 1, none⟩) _ (XZ.set 0 _) (by decide) (by decide)).sc (a := ⟨w.heap.size + 1, 2, none⟩) _ ((XZ.set 0 _).set 1 _) (by decide) (by decide)
      have HE : Below w.heap.size w (((wr.setCell ⟨w.heap.size + 1, 0, none⟩ (.int .i64 m.d)).setCell ⟨w.heap.size + 1, 1, none⟩ (.slice Ax m.a.length cx)).setCell ⟨w.heap.size + 1, 2, none⟩ (.slice Ay m.b.length cy)) := Below.sc (Below.sc (Below.sc HB (by simp) _) (by simp) _) (by simp) _
      have HD := Aside.mk HD
      have HE := Aside.mk HE
      clear HC HAA XB XZ HB HO HBB HXZ
      go_wp2
      refine bodyPost_ret (v := .agg #[.int .i64 m.d, .slice Ax m.a.length cx, .slice Ay m.b.length cy]) (by simp [z0, z1, z2, results, Try.results20, go_sem]) rfl ?_
      exact HP.out _ HD.out HE.out
end Go.Proofs.Ytjbgdpbeabakiaa
