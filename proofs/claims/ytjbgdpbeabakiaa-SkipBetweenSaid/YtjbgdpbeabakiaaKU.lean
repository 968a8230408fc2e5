/- Chapter 11: rivals whose ends are all known: plain laws, rows of one's own; contract of the law's filled. -/
import Derived.Test.YtjbgdpbeabakiaaKS
import Derived.Test.YtjbgdpbeabakiaaP4
namespace Go.Proofs.Ytjbgdpbeabakiaa
open Go.RowKit Go.Shelf
set_option linter.unusedVariables false
set_option linter.unusedSimpArgs false
/-- rows whose first k ones are filled up by d, the next one by j -/
def Pre (d j : Int) (src la : List (List Int)) (k : Nat) : Prop :=
  la.length = src.length ∧ ∀ i, (h : i < src.length) → (h' : i < la.length) → (i < k → Fill d src[i] la[i]) ∧ (i = k → Fill j src[i] la[i]) ∧ (k < i → la[i] = src[i])
theorem fill_zero (c : List Int) : Fill 0 c c := ⟨List.replicate c.length 0, by simp, fun i hi => by simp, by induction c with | nil => simp [sumI] | cons a c ih => simp only [List.length_cons, List.replicate_succ, sumI_cons, ih]; rfl, List.ext_getElem (by simp) fun i h1 h2 => by simp⟩
theorem Pre.start (d : Int) (src : List (List Int)) : Pre d 0 src src 0 := ⟨rfl, fun i h h' => ⟨fun h => by omega, fun _ => fill_zero _, fun _ => rfl⟩⟩
theorem Pre.next {d : Int} {src la : List (List Int)} {k : Nat} (h : Pre d d src la k) : Pre d 0 src la (k + 1) := ⟨h.1, fun i h1 h2 => by
  obtain ⟨a, b, c⟩ := h.2 i h1 h2
  refine ⟨fun hi => ?_, fun hi => ?_, fun hi => c (by omega)⟩
  · by_cases e : i = k
    · exact b e
    · exact a (by omega)
  · rw [c (by omega)]; exact fill_zero _⟩
theorem sum_set1 : ∀ (e : List Int) (n : Nat) (hn : n < e.length), sumI (e.set n (e[n] + 1)) = sumI e + 1
  | a :: e, 0, _ => by simp only [List.set_cons_zero, List.getElem_cons_zero, sumI_cons]; omega
  | a :: e, n + 1, h => by
    have := sum_set1 e n (by simpa using h)
    simp only [List.set_cons_succ, List.getElem_cons_succ, sumI_cons, this]; omega
theorem fill_bump {j : Int} {c c' : List Int} (h : Fill j c c') {n : Nat} (hn : n < c'.length) : Fill (j + 1) c (c'.set n (c'[n] + 1)) := by
  obtain ⟨e, h1, h2, h3, rfl⟩ := h
  have hn' : n < e.length := by simp at hn; omega
  have hn2 : n < c.length := by omega
  refine ⟨e.set n (e[n] + 1), by simpa using h1, fun i hi => ?_, by rw [sum_set1 e n hn', h3], List.ext_getElem (by simp) fun i q1 q2 => ?_⟩
  · rw [List.getElem_set]; split
    · have := h2 n hn'; omega
    · exact h2 i (by simpa using hi)
  · by_cases e2 : n = i
    · subst e2; simp; omega
    · simp [List.getElem_set, e2]
theorem Pre.bump {d j : Int} {src la : List (List Int)} {k n : Nat} (h : Pre d j src la k) (hk : k < la.length) (hn : n < la[k].length) : Pre d (j + 1) src (la.set k (la[k].set n (la[k][n] + 1))) k := ⟨by simpa using h.1, fun i h1 h2 => by
  have h2' : i < la.length := by simpa using h2
  obtain ⟨a, b, c⟩ := h.2 i h1 h2'
  refine ⟨fun hi => ?_, fun hi => ?_, fun hi => ?_⟩
  · rw [List.getElem_set_ne (by omega)]; exact a hi
  · subst hi; rw [List.getElem_set_self]; exact fill_bump (b rfl) hn
  · rw [List.getElem_set_ne (by omega)]; exact c hi⟩
theorem pos_le_sum : ∀ (e : List Int), Pos e → ∀ n (hn : n < e.length), e[n] ≤ sumI e
  | a :: e, hp, 0, _ => by
    have h := sum_pos e (fun i hi => by have := hp (i + 1) (by simpa using hi); rwa [List.getElem_cons_succ] at this)
    simp only [List.getElem_cons_zero, sumI_cons]; omega
  | a :: e, hp, n + 1, hn => by
    have h0 := hp 0 (by simp)
    have := pos_le_sum e (fun i hi => by have := hp (i + 1) (by simpa using hi); rwa [List.getElem_cons_succ] at this) n (by simpa using hn)
    simp only [List.getElem_cons_zero] at h0
    simp only [List.getElem_cons_succ, sumI_cons]; omega
theorem Fill.bd {j : Int} {c c' : List Int} (h : Fill j c c') (hc : Counts c) : c'.length = c.length ∧ ∀ n, (hn : n < c'.length) → 0 ≤ c'[n] ∧ c'[n] ≤ 1000000 + j := by
  obtain ⟨e, h1, h2, h3, rfl⟩ := h
  refine ⟨by simp [h1], fun n hn => ?_⟩
  have hn1 : n < c.length := by simp at hn; omega
  have hn2 : n < e.length := by omega
  have a := hc n hn1
  have b := h2 n hn2
  have c' := pos_le_sum e h2 n hn2
  simp; omega
theorem Pre.fills {m : Riv} {la lb : List (List Int)} (ha : Pre m.d 0 m.a la m.a.length) (hb : Pre m.d 0 m.b lb m.b.length) : Fills m ⟨la, lb, m.d⟩ :=
  ⟨rfl, ha.1, hb.1, fun i h h' => (ha.2 i h h').1 h, fun i h h' => (hb.2 i h h').1 h⟩
theorem Own4.swap {w : World} {base : Nat} {v0 v1 : Value} {s0 s1 : List Value} {la lb : List (List Int)} (h : Own4 w base v0 v1 s0 s1 la lb) : Own4 w base v1 v0 s1 s0 lb la :=
  ⟨h.o1, h.o0, h.ap.symm, h.r1, h.r0, by
    have := List.pairwise_append.1 h.pw
    exact List.pairwise_append.2 ⟨this.2.1, this.1, fun a ha b hb => (this.2.2 b hb a ha).symm⟩⟩
/-- a cell of the k-th row of the first team is stored into -/
theorem Own4.bump {w : World} {base g cap k n : Nat} {v0 v1 : Value} {s0 s1 : List Value} {la lb : List (List Int)} (h : Own4 w base v0 v1 s0 s1 la lb) (hk : k < la.length) (hk' : k < s0.length) (hv : s0[k] = .slice (some ⟨g, 0, none⟩) la[k].length cap) (hn : n < la[k].length) (x : Int) :
    Own4 (w.setCell ⟨g, n, none⟩ (.int .i64 x)) base v0 v1 s0 s1 (la.set k (la[k].set n x)) lb := by
  have hr := h.r0.2 k hk' hk
  have hob : s0[k].ownBlock = some g := by rw [hv]; rfl
  have set := grown_set w ⟨g, n, none⟩ (.int .i64 x)
  have o0 := h.o0.kept set (own_own_ne h.o0 hr (by decide) |>.ne.imp id fun e => by rwa [hob] at e)
  have o1 := h.o1.kept set (own_own_ne h.o1 hr (by decide) |>.ne.imp id fun e => by rwa [hob] at e)
  have pw := List.pairwise_append.1 h.pw
  refine ⟨by simpa using o0, o1, h.ap, ⟨by simpa using h.r0.1, fun i h1 h2 => ?_⟩, h.r1.kept set (fun v hv' => ?_), h.pw⟩
  · have h2' : i < la.length := by simpa using h2
    by_cases e : k = i
    · subst e
      rw [hv] at hr
      have st := (hr.stored n (.int .i64 x)).1
      rw [ints_set] at st
      rw [hv]
      simpa using st
    · rw [List.getElem_set_ne e]
      refine (h.r0.2 i h1 h2').kept set ?_
      have ap : Apart s0[k] s0[i] := by
        have pr := List.pairwise_iff_getElem.1 pw.1
        rcases Nat.lt_or_gt_of_ne e with q | q
        · exact pr k i hk' h1 q
        · exact (pr i k h1 hk' q).symm
      rcases ap.ne' with q | q
      · exact .inl q
      · exact .inr (by rwa [hob] at q)
  · have ap := pw.2.2 _ (List.getElem_mem hk') v hv'
    rcases ap.ne' with q | q
    · exact .inl q
    · exact .inr (by rwa [hob] at q)
theorem Own4.at0 {w : World} {base k : Nat} {v0 v1 : Value} {s0 s1 : List Value} {la lb : List (List Int)} (h : Own4 w base v0 v1 s0 s1 la lb) (hk : k < la.length) (h1 : 1 ≤ la[k].length) :
    ∃ g cap, (hk' : k < s0.length) → s0[k] = .slice (some ⟨g, 0, none⟩) la[k].length cap ∧ base ≤ g ∧ g < w.heap.size ∧ (∀ n, (hn : n < la[k].length) → w.cell? ⟨g, n, none⟩ = some (.int .i64 (la[k][n])) ∧ w.frozen? ⟨g, n, none⟩ = false) := by
  have hk' : k < s0.length := by rw [h.r0.1]; exact hk
  have hr := h.r0.2 k hk' hk
  obtain ⟨g, cap, hv, hg, hl⟩ := own_at hr h1
  refine ⟨g, cap, fun _ => ⟨hv, hg, hl, fun n hn => ?_⟩⟩
  rw [hv] at hr
  exact ⟨by rw [hr.cellAt n (by simpa [ints] using hn)]; simp [ints, hn], hr.frozenAt n⟩
/-- the cell of the outer row -/
theorem Own4.outer0 {w : World} {base k : Nat} {v0 v1 : Value} {s0 s1 : List Value} {la lb : List (List Int)} (h : Own4 w base v0 v1 s0 s1 la lb) (hk : k < la.length) : ∃ b c, v0 = .slice (some ⟨b, 0, none⟩) la.length c ∧ b < w.heap.size ∧ ∀ (hk' : k < s0.length), w.cell? ⟨b, k, none⟩ = some s0[k] := by
  obtain ⟨g, cap, hv, hg, hl⟩ := own_at h.o0 (by omega)
  refine ⟨g, cap, hv, hl, fun hk' => ?_⟩
  have hr := h.o0
  rw [hv] at hr
  rw [hr.cellAt k (by omega)]; simp [hk']
end Go.Proofs.Ytjbgdpbeabakiaa
namespace Go.Proofs.Ytjbgdpbeabakiaa
open Go.RowKit Go.Shelf
set_option linter.unusedVariables false
set_option linter.unusedSimpArgs false
/-- where filled stands -/
def FSt (m : Riv) (w : World) (B nB : Nat) (A0 A1 : Option Addr) (c0 c1 : Nat) (v0 v1 : Value) (s0 s1 : List Value) (ja jb : Int) (ka kb : Nat) (wr : World) : Prop :=
  ∃ la lb, Own4 wr B v0 v1 s0 s1 la lb ∧ Pre m.d ja m.a la ka ∧ Pre m.d jb m.b lb kb ∧ Blk wr w.heap.size #[.int .i64 m.d, .slice A0 m.a.length c0, .slice A1 m.b.length c1] 25 ∧ Blk wr nB #[.int .i64 m.d, v0, v1] 25 ∧
    Blk wr (w.heap.size + 1) #[.int .i64 0, .slice none 0 0, .slice none 0 0] 25 ∧ Below w.heap.size w wr
section
variable {m : Riv} {w wr : World} {B nB : Nat} {A0 A1 : Option Addr} {c0 c1 : Nat} {v0 v1 : Value} {s0 s1 : List Value} {ja jb : Int} {ka kb : Nat}
theorem FSt.blk (h : FSt m w B nB A0 A1 c0 c1 v0 v1 s0 s1 ja jb ka kb wr) : Blk wr w.heap.size #[.int .i64 m.d, .slice A0 m.a.length c0, .slice A1 m.b.length c1] 25 ∧ Blk wr nB #[.int .i64 m.d, v0, v1] 25 ∧ Blk wr (w.heap.size + 1) #[.int .i64 0, .slice none 0 0, .slice none 0 0] 25 ∧ Below w.heap.size w wr := by
  obtain ⟨la, lb, h1, h2, h3, h4, h5, h6, h7⟩ := h; exact ⟨h4, h5, h6, h7⟩
theorem FSt.next0 (h : FSt m w B nB A0 A1 c0 c1 v0 v1 s0 s1 m.d jb ka kb wr) : FSt m w B nB A0 A1 c0 c1 v0 v1 s0 s1 0 jb (ka + 1) kb wr := by
  obtain ⟨la, lb, h1, h2, h3, h⟩ := h; exact ⟨la, lb, h1, h2.next, h3, h⟩
theorem FSt.next1 (h : FSt m w B nB A0 A1 c0 c1 v0 v1 s0 s1 ja m.d ka kb wr) : FSt m w B nB A0 A1 c0 c1 v0 v1 s0 s1 ja 0 ka (kb + 1) wr := by
  obtain ⟨la, lb, h1, h2, h3, h⟩ := h; exact ⟨la, lb, h1, h2, h3.next, h⟩
theorem Pre.lens {d j : Int} {src la : List (List Int)} {k : Nat} (h : Pre d j src la k) (hs : ∀ c ∈ src, countedB c = true ∧ c.length = 17) (hd : 0 ≤ d) (hj : 0 ≤ j) (hjd : j ≤ d) : ∀ i, (hi : i < la.length) → la[i].length = 17 ∧ ∀ n, (hn : n < la[i].length) → 0 ≤ la[i][n] ∧ la[i][n] ≤ 1000000 + d := fun i hi => by
  have hi' : i < src.length := by rw [← h.1]; exact hi
  obtain ⟨a, b, c⟩ := h.2 i hi' hi
  obtain ⟨k1, k2⟩ := hs _ (List.getElem_mem hi')
  have hC := (Counts.of k1).1
  rcases Nat.lt_trichotomy i k with q | q | q
  · have := (a q).bd hC
    exact ⟨by omega, fun n hn => this.2 n hn⟩
  · have := (b q).bd hC
    exact ⟨by omega, fun n hn => by have := this.2 n hn; omega⟩
  · have e := c q
    exact ⟨by rw [e]; exact k2, fun n hn => by
      have hn' : n < src[i].length := by rw [← e]; exact hn
      have := hC n hn'
      simp only [e]; omega⟩
theorem FSt.cell0 (h : FSt m w B nB A0 A1 c0 c1 v0 v1 s0 s1 ja jb ka kb wr) (hm : rivOk m = true) (hj : 0 ≤ ja) (hjd : ja ≤ m.d) (hk : ka < m.a.length) :
    ∃ b cv, v0 = .slice (some ⟨b, 0, none⟩) m.a.length cv ∧ b < wr.heap.size ∧ ∃ g cap, wr.cell? ⟨b, ka, none⟩ = some (.slice (some ⟨g, 0, none⟩) 17 cap) ∧ ∀ hk' : ka < s0.length, s0[ka] = .slice (some ⟨g, 0, none⟩) 17 cap := by
  obtain ⟨la, lb, h1, h2, h3, h4⟩ := h
  have L := Pre.lens h2 (fun c hc => (rivOk_st hm 0).2.1 c hc) (by omega) hj hjd
  have hk2 : ka < la.length := by rw [h2.1]; exact hk
  obtain ⟨b, cv, e, hb, hc⟩ := h1.outer0 hk2
  obtain ⟨g, cap, hh⟩ := h1.at0 hk2 (by have := (L ka hk2).1; omega)
  have hk' : ka < s0.length := by rw [h1.r0.1]; exact hk2
  obtain ⟨hv, _⟩ := hh hk'
  rw [(L ka hk2).1] at hv
  exact ⟨b, cv, by rw [e, h2.1], hb, g, cap, by rw [hc hk', hv], fun _ => hv⟩
theorem FSt.bump0 (h : FSt m w B nB A0 A1 c0 c1 v0 v1 s0 s1 ja jb ka kb wr) (hwB : w.heap.size ≤ B) (hm : rivOk m = true) (hj : 0 ≤ ja) (hjd : ja ≤ m.d) (hk : ka < m.a.length) {g cap n : Nat} (hv : ∀ hk' : ka < s0.length, s0[ka] = .slice (some ⟨g, 0, none⟩) 17 cap) (hn : n < 17) :
    ∃ y, wr.cell? ⟨g, n, none⟩ = some (.int .i64 y) ∧ wr.frozen? ⟨g, n, none⟩ = false ∧ (0 ≤ y ∧ y ≤ 1000000 + m.d) ∧ g < wr.heap.size ∧ FSt m w B nB A0 A1 c0 c1 v0 v1 s0 s1 (ja + 1) jb ka kb (wr.setCell ⟨g, n, none⟩ (.int .i64 (y + 1))) := by
  obtain ⟨la, lb, h1, h2, h3, h4, h5, h6, h7⟩ := h
  have L := Pre.lens h2 (fun c hc => (rivOk_st hm 0).2.1 c hc) (by omega) hj hjd
  have hk2 : ka < la.length := by rw [h2.1]; exact hk
  have hk' : ka < s0.length := by rw [h1.r0.1]; exact hk2
  have hl := (L ka hk2).1
  obtain ⟨g', cap', hh⟩ := h1.at0 hk2 (by omega)
  obtain ⟨hv', hB, hlt, hc⟩ := hh hk'
  have e := hv hk'
  rw [hv'] at e
  simp only [Value.slice.injEq, Option.some.injEq, Addr.mk.injEq, and_true, true_and] at e
  obtain ⟨rfl, _, rfl⟩ := e
  obtain ⟨q1, q2⟩ := hc n (by omega)
  have bd := (L ka hk2).2 n (by omega)
  have hr : wr.ownsRow B 3 1 (.slice (some ⟨g', 0, none⟩) la[ka].length cap') la[ka].length (ints la[ka]) := by rw [← hv']; exact h1.r0.2 ka hk' hk2
  have ne : ∀ {b : Nat} {cs : Array Value}, Blk wr b cs 25 → b ≠ g' := fun hb e => by subst e; exact own_blk_ne hr hb (by decide) rfl
  refine ⟨la[ka][n], q1, q2, bd, hlt, la.set ka (la[ka].set n (la[ka][n] + 1)), lb, h1.bump hk2 hk' hv' (by omega) _, h2.bump hk2 (by omega), h3, h4.other _ _ (ne h4), h5.other _ _ (ne h5), h6.other _ _ (ne h6), Below.sc h7 ?_ _⟩
  show w.heap.size ≤ g'
  omega
end
end Go.Proofs.Ytjbgdpbeabakiaa
namespace Go.Proofs.Ytjbgdpbeabakiaa
open Go.RowKit Go.Shelf
set_option linter.unusedVariables false
set_option linter.unusedSimpArgs false
def FilledPost (m : Riv) (w : World) (e : Ending) (w' : World) : Prop :=
  ∃ A0 A1 c0 c1 m', e = .returned (rivV m' A0 A1 c0 c1) ∧ Args w' A0 A1 m' ∧ Fills m m' ∧ Below w.heap.size w w'
theorem arr_u8 {w : World} {A : Option Addr} {os : List Nat} (h : Arr w A (os.map fun x : Nat => Value.int .u8 x)) {i : Nat} (hi : i < os.length) : ∃ b o, A = some ⟨b, o, none⟩ ∧ b < w.heap.size ∧ w.cell? ⟨b, o + i, none⟩ = some (.int .u8 os[i]) := by
  rcases h with h | ⟨b, o, hA, hb, hc⟩
  · simp at h; subst h; simp at hi
  · refine ⟨b, o, hA, hb, ?_⟩
    rw [hc i (by simpa using hi)]; simp [hi]
theorem FSt.swap {m : Riv} {w wr : World} {B nB : Nat} {A0 A1 : Option Addr} {c0 c1 : Nat} {v0 v1 : Value} {s0 s1 : List Value} {ja jb : Int} {ka kb : Nat} (h : FSt m w B nB A0 A1 c0 c1 v0 v1 s0 s1 ja jb ka kb wr) :
    ∃ la lb, Own4 wr B v1 v0 s1 s0 lb la ∧ Pre m.d ja m.a la ka ∧ Pre m.d jb m.b lb kb := by
  obtain ⟨la, lb, h1, h2, h3, _⟩ := h; exact ⟨la, lb, h1.swap, h2, h3⟩
theorem FSt.cell1 {m : Riv} {w wr : World} {B nB : Nat} {A0 A1 : Option Addr} {c0 c1 : Nat} {v0 v1 : Value} {s0 s1 : List Value} {ja jb : Int} {ka kb : Nat} (h : FSt m w B nB A0 A1 c0 c1 v0 v1 s0 s1 ja jb ka kb wr) (hm : rivOk m = true) (hj : 0 ≤ jb) (hjd : jb ≤ m.d) (hk : kb < m.b.length) :
    ∃ b cv, v1 = .slice (some ⟨b, 0, none⟩) m.b.length cv ∧ b < wr.heap.size ∧ ∃ g cap, wr.cell? ⟨b, kb, none⟩ = some (.slice (some ⟨g, 0, none⟩) 17 cap) ∧ ∀ hk' : kb < s1.length, s1[kb] = .slice (some ⟨g, 0, none⟩) 17 cap := by
  obtain ⟨la, lb, h1, h3, h2⟩ := h.swap
  have L := Pre.lens h2 (fun c hc => (rivOk_st hm 1).2.1 c (by simpa [Riv.st] using hc)) (by omega) hj hjd
  have hk2 : kb < lb.length := by rw [h2.1]; exact hk
  obtain ⟨b, cv, e, hb, hc⟩ := h1.outer0 hk2
  obtain ⟨g, cap, hh⟩ := h1.at0 hk2 (by have := (L kb hk2).1; omega)
  have hk' : kb < s1.length := by rw [h1.r0.1]; exact hk2
  obtain ⟨hv, _⟩ := hh hk'
  rw [(L kb hk2).1] at hv
  exact ⟨b, cv, by rw [e, h2.1], hb, g, cap, by rw [hc hk', hv], fun _ => hv⟩
theorem FSt.bump1 {m : Riv} {w wr : World} {B nB : Nat} {A0 A1 : Option Addr} {c0 c1 : Nat} {v0 v1 : Value} {s0 s1 : List Value} {ja jb : Int} {ka kb : Nat} (h : FSt m w B nB A0 A1 c0 c1 v0 v1 s0 s1 ja jb ka kb wr) (hwB : w.heap.size ≤ B) (hm : rivOk m = true) (hj : 0 ≤ jb) (hjd : jb ≤ m.d) (hk : kb < m.b.length) {g cap n : Nat} (hv : ∀ hk' : kb < s1.length, s1[kb] = .slice (some ⟨g, 0, none⟩) 17 cap) (hn : n < 17) :
    ∃ y, wr.cell? ⟨g, n, none⟩ = some (.int .i64 y) ∧ wr.frozen? ⟨g, n, none⟩ = false ∧ (0 ≤ y ∧ y ≤ 1000000 + m.d) ∧ g < wr.heap.size ∧ FSt m w B nB A0 A1 c0 c1 v0 v1 s0 s1 ja (jb + 1) ka kb (wr.setCell ⟨g, n, none⟩ (.int .i64 (y + 1))) := by
  obtain ⟨lb, la, h1', h3, h2, h4, h5, h6, h7⟩ := h
  have h1 := h1'.swap
  have L := Pre.lens h2 (fun c hc => (rivOk_st hm 1).2.1 c (by simpa [Riv.st] using hc)) (by omega) hj hjd
  have hk2 : kb < la.length := by rw [h2.1]; exact hk
  have hk' : kb < s1.length := by rw [h1.r0.1]; exact hk2
  have hl := (L kb hk2).1
  obtain ⟨g', cap', hh⟩ := h1.at0 hk2 (by omega)
  obtain ⟨hv', hB, hlt, hc⟩ := hh hk'
  have e := hv hk'
  rw [hv'] at e
  simp only [Value.slice.injEq, Option.some.injEq, Addr.mk.injEq, and_true, true_and] at e
  obtain ⟨rfl, _, rfl⟩ := e
  obtain ⟨q1, q2⟩ := hc n (by omega)
  have bd := (L kb hk2).2 n (by omega)
  have hr : wr.ownsRow B 3 1 (.slice (some ⟨g', 0, none⟩) la[kb].length cap') la[kb].length (ints la[kb]) := by rw [← hv']; exact h1.r0.2 kb hk' hk2
  have ne : ∀ {b : Nat} {cs : Array Value}, Blk wr b cs 25 → b ≠ g' := fun hb e => by subst e; exact own_blk_ne hr hb (by decide) rfl
  refine ⟨la[kb][n], q1, q2, bd, hlt, lb, la.set kb (la[kb].set n (la[kb][n] + 1)), (h1.bump hk2 hk' hv' (by omega) _).swap, h3, h2.bump hk2 (by omega), h4.other _ _ (ne h4), h5.other _ _ (ne h5), h6.other _ _ (ne h6), Below.sc h7 ?_ _⟩
  show w.heap.size ≤ g'
  omega
set_option maxHeartbeats 8000000 in
set_option maxRecDepth 100000 in
theorem filled_c (A0 A1 Ao : Option Addr) (c0 c1 co : Nat) (m : Riv) (os : List Nat) (d : Nat) (w : World) (ha : Args w A0 A1 m) (hm : rivOk m = true) (hd : m.d = d) (d40 : d ≤ 40) (ho : Arr w Ao (os.map fun x : Nat => Value.int .u8 x)) (hob : ∀ x ∈ os, x ≤ 255) (hol : os.length ≤ 200) :
    Calls Try.prog 18 #[rivV m A0 A1 c0 c1, .slice Ao os.length co] w (FilledPost m w) := by
  obtain ⟨⟨la1, la8⟩, _, d1, _⟩ := rivOk_st hm 0
  obtain ⟨⟨lb1, lb8⟩, _, _, _⟩ := rivOk_st hm 1
  simp only [Riv.st, if_true] at la1 la8
  simp [Riv.st] at lb1 lb8
  have hia0 : ∀ (x y : Value) (w : World), (Instr.index 23 (.agg #[x, y]) (.int .i64 0)).run Try.prog w = .ok x w := fun x y w => by kernel_rfl
  have hia1 : ∀ (x y : Value) (w : World), (Instr.index 23 (.agg #[x, y]) (.int .i64 1)).run Try.prog w = .ok y w := fun x y w => by kernel_rfl
  have KCP := Aside.mk (fun w (ha : Args w A0 A1 m) => copied_c A0 A1 c0 c1 m w ha (by omega) (by omega))
  have HAA := Aside.mk ha
  have HM := Lib.hid hm
  have HD := Lib.hid hd
  have HOS := Aside.mk (And.intro ho hob)
  unfold rivV CopiedPost at *
  clear ha hm hd ho hob
  go_enter Try.func18, Try.ntmps18
  go_wp2_with fail
  have X1 : Blk ((w.alloc (.cells #[.int .i64 m.d, .slice A0 m.a.length c0, .slice A1 m.b.length c1] 25)).alloc (.cells #[.int .i64 0, .slice none 0 0, .slice none 0 0] 25)) (w.heap.size + 1) #[.int .i64 0, .slice none 0 0, .slice none 0 0] 25 := Blk.fresh' (by simp)
  have X0 : Blk ((w.alloc (.cells #[.int .i64 m.d, .slice A0 m.a.length c0, .slice A1 m.b.length c1] 25)).alloc (.cells #[.int .i64 0, .slice none 0 0, .slice none 0 0] 25)) w.heap.size #[.int .i64 m.d, .slice A0 m.a.length c0, .slice A1 m.b.length c1] 25 := (Blk.fresh' (by simp)).al _
  have HB : Below w.heap.size w ((w.alloc (.cells #[.int .i64 m.d, .slice A0 m.a.length c0, .slice A1 m.b.length c1] 25)).alloc (.cells #[.int .i64 0, .slice none 0 0, .slice none 0 0] 25)) := (by repeat (with_reducible first | exact Below.refl _ _ | assumption | refine Below.al ?_ _ | refine Below.dr ?_ | refine Below.drn ?_ _ | refine Below.sc ?_ (by simp <;> omega) _ | refine Below.th ?_ (by assumption)))
  generalize (w.alloc (.cells #[.int .i64 m.d, .slice A0 m.a.length c0, .slice A1 m.b.length c1] 25)).alloc (.cells #[.int .i64 0, .slice none 0 0, .slice none 0 0] 25) = v at *
  refine (KCP.out _ (HAA.out.be HB)).mono ?_
  rintro e W ⟨v0, v1, s0, s1, rfl, hO, zb⟩
  obtain ⟨Ax, cx, rfl, _⟩ := own_slice hO.o0
  obtain ⟨Ay, cy, rfl, _⟩ := own_slice hO.o1
  have hwv := HB.size
  have HF : FSt m w v.heap.size W.heap.size A0 A1 c0 c1 (.slice Ax m.a.length cx) (.slice Ay m.b.length cy) s0 s1 0 0 0 0 (W.alloc (.cells #[.int .i64 m.d, .slice Ax m.a.length cx, .slice Ay m.b.length cy] 25)) :=
    ⟨m.a, m.b, hO.be (Below.al (Below.refl _ _) _), Pre.start _ _, Pre.start _ _, (X0.be zb).al _, Blk.fresh _ _ _, (X1.be zb).al _, Below.al (Below.th HB zb) _⟩
  have zz := zb.size
  have HF := Aside.mk HF
  clear hO zb X0 X1 HB KCP HAA
  obtain ⟨x0, x1, x2⟩ := HF.out.blk.2.1.three
  go_wp2_with fail
  clear x0 x1 x2
  generalize W.alloc (.cells #[.int .i64 m.d, .slice Ax m.a.length cx, .slice Ay m.b.length cy] 25) = W1 at *
  go_loopw [6, 16] (fun i6 i16 wr => ∃ i : Nat, i6 = .int .i64 i ∧ ((i16 = .int .i64 0 ∧ i = 0 ∧ Aside (FSt m w v.heap.size W.heap.size A0 A1 c0 c1 (.slice Ax m.a.length cx) (.slice Ay m.b.length cy) s0 s1 0 0 0 0 wr)) ∨
    (i16 = .int .i64 1 ∧ i ≤ 40 * m.a.length ∧ Aside (FSt m w v.heap.size W.heap.size A0 A1 c0 c1 (.slice Ax m.a.length cx) (.slice Ay m.b.length cy) s0 s1 0 0 m.a.length 0 wr)) ∨
    (i16 = .int .i64 2 ∧ i ≤ 40 * m.a.length + 40 * m.b.length ∧ Aside (FSt m w v.heap.size W.heap.size A0 A1 c0 c1 (.slice Ax m.a.length cx) (.slice Ay m.b.length cy) s0 s1 0 0 m.a.length m.b.length wr)))) (fun _ i _ => 2 - (intOf i).toNat)
  case atStart => exact ⟨0, rfl, .inl ⟨rfl, rfl, HF⟩⟩
  case round =>
    obtain ⟨i, rfl, hrel⟩ := hrel
    rcases hrel with ⟨rfl, rfl, HC⟩ | ⟨rfl, hi, HC⟩ | ⟨rfl, hi, HC⟩
    · clear HF
      go_wp2_with fail
      rename_i W0
      go_loopw [6, 21] (fun i6 i21 wr => ∃ (k i : Nat), k ≤ m.a.length ∧ i6 = .int .i64 i ∧ i ≤ 40 * k ∧ i21 = .int .i64 k ∧ Aside (FSt m w v.heap.size W.heap.size A0 A1 c0 c1 (.slice Ax m.a.length cx) (.slice Ay m.b.length cy) s0 s1 0 0 k 0 wr)) (fun _ i _ => m.a.length - (intOf i).toNat)
      case atStart => exact ⟨0, 0, by omega, by go_num, by omega, rfl, HC⟩
      case round =>
        obtain ⟨k, i, hk, rfl, hi, rfl, HK⟩ := hrel
        by_cases hlt : k < m.a.length
        · obtain ⟨b, cv, hv, hb, g, cap, hcell, hs⟩ := HK.out.cell0 HM.out (by omega) (by omega) hlt
          simp only [Value.slice.injEq, true_and] at hv
          obtain ⟨rfl, rfl⟩ := hv
          obtain ⟨X0, XN, XZ, HB⟩ := HK.out.blk
          have x0 := X0.three.1.trans (show _ = some (.int .i64 d) by rw [HD.out])
          have hws := X0.lt
          have HS := Aside.mk hs
          clear X0 XN XZ hs HC
          go_wp2_with fail
          clear x0 hcell
          rename_i W2
          go_loopw [6, 27] (fun i6 i27 wr => ∃ (j i : Nat), j ≤ d ∧ i6 = .int .i64 i ∧ i ≤ 40 * k + j ∧ i27 = .int .i64 j ∧ Aside (FSt m w v.heap.size W.heap.size A0 A1 c0 c1 (.slice (some ⟨b, 0, none⟩) m.a.length cx) (.slice Ay m.b.length cy) s0 s1 j 0 k 0 wr)) (fun _ i _ => d - (intOf i).toNat)
          case atStart => exact ⟨0, i, by omega, rfl, by omega, rfl, HK⟩
          case round =>
            obtain ⟨j, i', hj, rfl, hi', rfl, HJ⟩ := hrel
            by_cases hjd : j < d
            · have HBJ := HJ.out.blk.2.2.2
              by_cases hemp : 0 < os.length
              · have hix : i' % os.length < os.length := Nat.mod_lt _ hemp
                have hemp' : (0 : Int) < os.length := by omega
                obtain ⟨bo, oo, rfl, hbo, hco⟩ := arr_u8 (HOS.out.1.below HBJ) hix
                have hx255 := HOS.out.2 _ (List.getElem_mem hix)
                generalize os[i' % os.length] = x at *
                have hx17 : x % 17 < 17 := Nat.mod_lt _ (by omega)
                have hx17' : (x : Int) % 17 < 17 := by omega
                have hx0 : 0 ≤ (x : Int) % 17 := by omega
                obtain ⟨y, hy, hf, ⟨y0, y1⟩, hg, hJ'⟩ := HJ.out.bump0 (by omega) HM.out (by omega) (by rw [HD.out]; omega) hlt HS.out hx17
                rw [HD.out] at y1
                have HJ' := Aside.mk hJ'
                clear hJ' HJ
                go_wp2
                go_roundw
                case rel => exact ⟨j + 1, i' + 1, by omega, by go_num, by omega, by go_num, HJ'⟩
                case measure => simp [intOf]; omega
              · have hemp' : os.length = 0 := by omega
                have HEM := Lib.hid hemp'
                have hemp2 : ¬ (0 : Int) < os.length := by omega
                obtain ⟨y, hy, hf, ⟨y0, y1⟩, hg, hJ'⟩ := HJ.out.bump0 (n := 9) (by omega) HM.out (by omega) (by rw [HD.out]; omega) hlt HS.out (by omega)
                rw [HD.out] at y1
                have HJ' := Aside.mk hJ'
                clear hJ' HJ hemp'
                go_wp2
                go_roundw
                case rel => exact ⟨j + 1, i' + 1, by omega, by go_num, by omega, by go_num, HJ'⟩
                case measure => simp [intOf]; omega
            · obtain rfl : j = d := by omega
              have HN : Aside (FSt m w v.heap.size W.heap.size A0 A1 c0 c1 (.slice (some ⟨b, 0, none⟩) m.a.length cx) (.slice Ay m.b.length cy) s0 s1 0 0 (k + 1) 0 wr) := ⟨by have h := HJ.out; rw [← HD.out] at h; exact h.next0⟩
              clear HJ
              go_wp2
              go_roundw
              case rel => exact ⟨k + 1, i', by omega, rfl, by omega, by go_num, HN⟩
              case measure => simp [intOf]; omega
        · obtain rfl : k = m.a.length := by omega
          go_wp2
          go_roundw
          case rel => exact ⟨i, rfl, .inr (.inl ⟨by go_num, by omega, HK⟩)⟩
          case measure => simp [intOf]
    · clear HF
      go_wp2_with fail
      rename_i W0
      go_loopw [6, 21] (fun i6 i21 wr => ∃ (k i : Nat), k ≤ m.b.length ∧ i6 = .int .i64 i ∧ i ≤ 40 * m.a.length + 40 * k ∧ i21 = .int .i64 k ∧ Aside (FSt m w v.heap.size W.heap.size A0 A1 c0 c1 (.slice Ax m.a.length cx) (.slice Ay m.b.length cy) s0 s1 0 0 m.a.length k wr)) (fun _ i _ => m.b.length - (intOf i).toNat)
      case atStart => exact ⟨0, i, by omega, rfl, by omega, rfl, HC⟩
      case round =>
        obtain ⟨k, i, hk, rfl, hi, rfl, HK⟩ := hrel
        by_cases hlt : k < m.b.length
        · obtain ⟨b, cv, hv, hb, g, cap, hcell, hs⟩ := HK.out.cell1 HM.out (by omega) (by omega) hlt
          simp only [Value.slice.injEq, true_and] at hv
          obtain ⟨rfl, rfl⟩ := hv
          obtain ⟨X0, XN, XZ, HB⟩ := HK.out.blk
          have x0 := X0.three.1.trans (show _ = some (.int .i64 d) by rw [HD.out])
          have hws := X0.lt
          have HS := Aside.mk hs
          clear X0 XN XZ hs HC
          go_wp2_with fail
          clear x0 hcell
          rename_i W2
          go_loopw [6, 27] (fun i6 i27 wr => ∃ (j i : Nat), j ≤ d ∧ i6 = .int .i64 i ∧ i ≤ 40 * m.a.length + 40 * k + j ∧ i27 = .int .i64 j ∧ Aside (FSt m w v.heap.size W.heap.size A0 A1 c0 c1 (.slice Ax m.a.length cx) (.slice (some ⟨b, 0, none⟩) m.b.length cy) s0 s1 0 j m.a.length k wr)) (fun _ i _ => d - (intOf i).toNat)
          case atStart => exact ⟨0, i, by omega, rfl, by omega, rfl, HK⟩
          case round =>
            obtain ⟨j, i', hj, rfl, hi', rfl, HJ⟩ := hrel
            by_cases hjd : j < d
            · have HBJ := HJ.out.blk.2.2.2
              by_cases hemp : 0 < os.length
              · have hix : i' % os.length < os.length := Nat.mod_lt _ hemp
                have hemp' : (0 : Int) < os.length := by omega
                obtain ⟨bo, oo, rfl, hbo, hco⟩ := arr_u8 (HOS.out.1.below HBJ) hix
                have hx255 := HOS.out.2 _ (List.getElem_mem hix)
                generalize os[i' % os.length] = x at *
                have hx17 : x % 17 < 17 := Nat.mod_lt _ (by omega)
                have hx17' : (x : Int) % 17 < 17 := by omega
                have hx0 : 0 ≤ (x : Int) % 17 := by omega
                obtain ⟨y, hy, hf, ⟨y0, y1⟩, hg, hJ'⟩ := HJ.out.bump1 (by omega) HM.out (by omega) (by rw [HD.out]; omega) hlt HS.out hx17
                rw [HD.out] at y1
                have HJ' := Aside.mk hJ'
                clear hJ' HJ
                go_wp2
                go_roundw
                case rel => exact ⟨j + 1, i' + 1, by omega, by go_num, by omega, by go_num, HJ'⟩
                case measure => simp [intOf]; omega
              · have hemp' : os.length = 0 := by omega
                have HEM := Lib.hid hemp'
                have hemp2 : ¬ (0 : Int) < os.length := by omega
                obtain ⟨y, hy, hf, ⟨y0, y1⟩, hg, hJ'⟩ := HJ.out.bump1 (n := 9) (by omega) HM.out (by omega) (by rw [HD.out]; omega) hlt HS.out (by omega)
                rw [HD.out] at y1
                have HJ' := Aside.mk hJ'
                clear hJ' HJ hemp'
                go_wp2
                go_roundw
                case rel => exact ⟨j + 1, i' + 1, by omega, by go_num, by omega, by go_num, HJ'⟩
                case measure => simp [intOf]; omega
            · obtain rfl : j = d := by omega
              have HN : Aside (FSt m w v.heap.size W.heap.size A0 A1 c0 c1 (.slice Ax m.a.length cx) (.slice (some ⟨b, 0, none⟩) m.b.length cy) s0 s1 0 0 m.a.length (k + 1) wr) := ⟨by have h := HJ.out; rw [← HD.out] at h; exact h.next1⟩
              clear HJ
              go_wp2
              go_roundw
              case rel => exact ⟨k + 1, i', by omega, rfl, by omega, by go_num, HN⟩
              case measure => simp [intOf]; omega
        · obtain rfl : k = m.b.length := by omega
          go_wp2
          go_roundw
          case rel => exact ⟨i, rfl, .inr (.inr ⟨by go_num, by omega, HK⟩)⟩
          case measure => simp [intOf]
    · obtain ⟨la, lb, hO, pa, pb, X0, XN, XZ, HB⟩ := HC.out
      obtain ⟨x0, x1, x2⟩ := XN.three
      obtain ⟨z0, z1, z2⟩ := XZ.three
      have f0 := XZ.frozen 0
      have f1 := XZ.frozen 1
      have f2 := XZ.frozen 2
      have ZL := XZ.lt
      have hO2 := ((hO.sc (a := ⟨w.heap.size + 1, 0, none⟩) (.int .i64 m.d) XZ (by decide) (by decide)).sc (a := ⟨w.heap.size + 1, 1, none⟩) (.slice Ax m.a.length cx) (XZ.set 0 _) (by decide) (by decide)).sc (a := ⟨w.heap.size + 1, 2, none⟩) (.slice Ay m.b.length cy) ((XZ.set 0 _).set 1 _) (by decide) (by decide)
      have HE : Below w.heap.size w (((wr.setCell ⟨w.heap.size + 1, 0, none⟩ (.int .i64 m.d)).setCell ⟨w.heap.size + 1, 1, none⟩ (.slice Ax m.a.length cx)).setCell ⟨w.heap.size + 1, 2, none⟩ (.slice Ay m.b.length cy)) := Below.sc (Below.sc (Below.sc HB (by simp) _) (by simp) _) (by simp) _
      have LA := Pre.lens pa (fun c hc => (rivOk_st HM.out 0).2.1 c hc) (by omega) (by omega) (by omega)
      have LB := Pre.lens pb (fun c hc => (rivOk_st HM.out 1).2.1 c (by simpa [Riv.st] using hc)) (by omega) (by omega) (by omega)
      have hF := pa.fills pb
      obtain ⟨B0, B1, e0, e1, q0, q1, hA⟩ := hO2.args (m := ⟨la, lb, m.d⟩) (fun i hi => by have := (LA i hi).1; show la[i].length ≤ 60; omega) (fun i hi => by have := (LB i hi).1; show lb[i].length ≤ 60; omega) (by have := pa.1; show la.length < _; omega) (by have := pb.1; show lb.length < _; omega)
      have HP : Aside (FilledPost m w (.returned (.agg #[.int .i64 m.d, .slice Ax m.a.length cx, .slice Ay m.b.length cy])) (((wr.setCell ⟨w.heap.size + 1, 0, none⟩ (.int .i64 m.d)).setCell ⟨w.heap.size + 1, 1, none⟩ (.slice Ax m.a.length cx)).setCell ⟨w.heap.size + 1, 2, none⟩ (.slice Ay m.b.length cy))) := ⟨⟨B0, B1, e0, e1, ⟨la, lb, m.d⟩, by rw [q0, q1]; rfl, hA, hF, HE⟩⟩
      clear HC HF hO hO2 pa pb X0 XN XZ HB LA LB hF hA HE q0 q1
      go_wp2
      refine bodyPost_ret (v := .agg #[.int .i64 m.d, .slice Ax m.a.length cx, .slice Ay m.b.length cy]) (by simp [z0, z1, z2, results, Try.results18, go_sem]) rfl ?_
      exact HP.out
end Go.Proofs.Ytjbgdpbeabakiaa
