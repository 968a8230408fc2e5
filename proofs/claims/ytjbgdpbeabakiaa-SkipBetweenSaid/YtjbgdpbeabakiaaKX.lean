/- Chapter 11: contract of the law's chance. -/
import Derived.Test.YtjbgdpbeabakiaaKU
import Derived.Test.YtjbgdpbeabakiaaKI
namespace Go.Proofs.Ytjbgdpbeabakiaa
open Go.RowKit Go.Shelf
set_option linter.unusedVariables false
set_option linter.unusedSimpArgs false
attribute [local go_sem] Oper.semAt_some
/-- the chance behind an end with points -/
def stepV (down : Bool) (m : Riv) : Nat → Int → Int → Int → Int
  | 0, l, h, p => winV h p
  | n + 1, l, h, p => chanceP down m n (nextL l h p) (nextH h p)
def stepOk (m : Riv) : Nat → Int → Int → Int → Prop
  | 0, l, h, p => True
  | n + 1, l, h, p => playedOk m n (nextL l h p) (nextH h p)
theorem chanceP_eq (down : Bool) (m : Riv) (n : Nat) (l h : Int) (hz : n ≠ 0 ∨ l = 0) : chanceP down m n l h = pickV h ((m.st h).map (styleV down n (rowV (stepV down m n l h)))) := by
  cases n with
  | zero => simp at hz; subst hz; simp only [chanceP, if_true]; rfl
  | succ n => rfl
theorem playedOk_of {m : Riv} {n : Nat} {l h : Int} (h1 : ∀ c ∈ m.st h, sumI (countsH n c) ≠ 0) (h2 : ∀ p, -8 ≤ p → p ≤ 8 → stepOk m n l h p) : playedOk m n l h := by
  cases n with
  | zero => exact fun _ => h1
  | succ n => exact ⟨h1, h2⟩
theorem pickV_snoc (l : List Int) (h : Int) (k : Nat) (hk : k < l.length) (h1 : 1 ≤ k) : pickV h (l.take (k + 1)) = if h = 0 then max (pickV h (l.take k)) l[k] else min (pickV h (l.take k)) l[k] := by
  cases l with
  | nil => simp at hk
  | cons x t =>
    obtain ⟨j, rfl⟩ : ∃ j, k = j + 1 := ⟨k - 1, by omega⟩
    simp only [List.take_succ_cons, pickV]
    rw [foldl_snoc _ _ _ j (by simpa using hk)]; rfl
theorem rdiv_up (s n : Int) (hs : 0 ≤ s) (hn : 0 < n) : rdiv false s n = if 0 < s % n then s / n + 1 else s / n := by
  simp only [rdiv, Bool.false_eq_true, if_false]
  have e := Int.mul_ediv_add_emod s n
  have e1 := Int.emod_nonneg s (show n ≠ 0 by omega)
  have e2 := Int.emod_lt_of_pos s hn
  split
  · have : (-s) / n = -(s / n + 1) := by
      have e3 : -s = (n - s % n) + n * (-(s / n + 1)) := by rw [Int.mul_neg, Int.mul_add]; omega
      rw [e3, Int.add_mul_ediv_left _ _ (by omega), Int.ediv_eq_zero_of_lt (by omega) (by omega)]; omega
    omega
  · have : (-s) / n = -(s / n) := by
      have e3 : -s = 0 + n * (-(s / n)) := by rw [Int.mul_neg]; omega
      rw [e3, Int.add_mul_ediv_left _ _ (by omega)]; simp
    omega
theorem rdiv_in {down : Bool} {s n : Int} (hs : 0 ≤ s) (hn : 0 < n) (hb : s ≤ 65536 * n) : 0 ≤ rdiv down s n ∧ rdiv down s n ≤ 65536 := by
  have a := Int.ediv_nonneg hs (show 0 ≤ n by omega)
  have b : s / n ≤ 65536 := Int.ediv_le_of_le_mul hn hb
  cases down
  · rw [rdiv_up s n hs hn]
    split
    · refine ⟨by omega, ?_⟩
      by_cases e : s / n = 65536
      · have e1 := Int.mul_ediv_add_emod s n
        rw [e, Int.mul_comm] at e1; omega
      · omega
    · exact ⟨a, b⟩
  · simp only [rdiv, if_true]; exact ⟨a, b⟩
/-- as it was, but for two blocks and new ones -/
structure Kept2 (p mb : Nat) (w w' : World) : Prop where
  os : w'.os = w.os
  tape : w'.tape = w.tape
  output : w'.output = w.output
  size : w.heap.size ≤ w'.heap.size
  block : ∀ k, k < w.heap.size → k ≠ p → k ≠ mb → w'.heap[k]? = w.heap[k]?
theorem Kept2.refl (p mb : Nat) (w : World) : Kept2 p mb w w := ⟨rfl, rfl, rfl, Nat.le_refl _, fun _ _ _ _ => rfl⟩
theorem Kept2.th {p mb : Nat} {a b c : World} (h : Kept2 p mb a b) (k : Kept2 p mb b c) : Kept2 p mb a c :=
  ⟨k.os.trans h.os, k.tape.trans h.tape, k.output.trans h.output, Nat.le_trans h.size k.size, fun i hi h1 h2 => (k.block i (Nat.lt_of_lt_of_le hi h.size) h1 h2).trans (h.block i hi h1 h2)⟩
theorem Kept2.be {p mb : Nat} {a b c : World} (h : Kept2 p mb a b) (k : Below b.heap.size b c) : Kept2 p mb a c :=
  h.th ⟨k.os, k.tape, k.output, k.size, fun i hi _ _ => k.block i hi⟩
theorem Kept2.sp {p mb : Nat} {a b : World} (h : Kept2 p mb a b) (j : Nat) (v : Value) : Kept2 p mb a (b.setCell ⟨p, j, none⟩ v) :=
  h.th ⟨rfl, rfl, rfl, by simp [World.setCell], fun i hi h1 h2 => Below.heap_setCell _ _ _ _ h1⟩
theorem Kept2.gr {p mb : Nat} {a b c : World} (h : Kept2 p mb a b) (k : b.grownBy c (some mb)) : Kept2 p mb a c :=
  h.th ⟨k.os, k.tape, k.output, k.size, fun i hi h1 h2 => k.block i hi (fun e => h2 (by cases e; rfl))⟩
theorem Kept2.below {p mb B : Nat} {w w' : World} (h : Kept2 p mb w w') (h1 : B ≤ p) (h2 : B ≤ mb) (h3 : B ≤ w.heap.size) : Below B w w' :=
  ⟨h.os, h.tape, h.output, h.size, fun k hk => h.block k (by omega) (by omega) (by omega)⟩
theorem Blk.kept2 {p mb b : Nat} {w w' : World} {cs : Array Value} {T : TypeId} (h : Blk w b cs T) (k : Kept2 p mb w w') (h1 : b ≠ p) (h2 : b ≠ mb) : Blk w' b cs T := h.at (k.block b h.lt h1 h2)
def Qc (down : Bool) (m : Riv) (o : Bool) (k : Int × Int × Int) (v : Value) : Prop :=
  ∃ x, v = .int .i64 x ∧ (0 ≤ x ∧ x ≤ 65536) ∧ (o = false → x = chanceP down m k.1.toNat k.2.1 k.2.2 ∧ playedOk m k.1.toNat k.2.1 k.2.2)
/-- what is reckoned of rivals whose ends are all known -/
structure PlayK (m : Riv) (down : Bool) (A0 A1 : Option Addr) (c0 c1 p mb B : Nat) (o : Bool) (w : World) : Prop where
  blk : Blk w p #[.int .i64 m.d, .slice A0 m.a.length c0, .slice A1 m.b.length c1, .bool down, .bool o, .map (some mb)] 50
  memo : MapAll encS (Qc down m o) w mb
  ra : Rows B w A0 m.a
  rb : Rows B w A1 m.b
  hp : B ≤ p
  hm : B ≤ mb
  ne : p ≠ mb
section
variable {m : Riv} {down o : Bool} {A0 A1 : Option Addr} {c0 c1 p mb B : Nat} {w w' : World}
theorem MapAll.weak {κ : Type} [BEq κ] [LawfulBEq κ] [DecidableEq κ] {enc : κ → Value} {Q Q' : κ → Value → Prop} {r : Nat} (h : MapAll enc Q w r) (hq : ∀ k v, Q k v → Q' k v) : MapAll enc Q' w r := by
  obtain ⟨l, h1, h2⟩ := h; exact ⟨l, h1, fun p hp => hq _ _ (h2 p hp)⟩
theorem Qc.weak {k : Int × Int × Int} {v : Value} (h : Qc down m false k v) : Qc down m true k v := by
  obtain ⟨x, h1, h2, _⟩ := h; exact ⟨x, h1, h2, fun e => by cases e⟩
theorem PlayK.be (h : PlayK m down A0 A1 c0 c1 p mb B o w) (hb : Below w.heap.size w w') : PlayK m down A0 A1 c0 c1 p mb B o w' :=
  ⟨h.blk.be hb, h.memo.below hb h.memo.lt, h.ra.below (hb.mono (by have := h.blk.lt; have := h.hp; omega)), h.rb.below (hb.mono (by have := h.blk.lt; have := h.hp; omega)), h.hp, h.hm, h.ne⟩
theorem PlayK.odd (h : PlayK m down A0 A1 c0 c1 p mb B o w) : PlayK m down A0 A1 c0 c1 p mb B true (w.setCell ⟨p, 4, none⟩ (.bool true)) := by
  refine ⟨h.blk.set 4 (.bool true), MapAll.weak (h.memo.at (Below.heap_setCell _ _ _ _ (fun e => h.ne e.symm))) (fun k v hq => ?_), h.ra.below (Below.setCell (Below.refl _ _) h.hp _), h.rb.below (Below.setCell (Below.refl _ _) h.hp _), h.hp, h.hm, h.ne⟩
  cases o
  · exact hq.weak
  · exact hq
theorem PlayK.same (h : PlayK m down A0 A1 c0 c1 p mb B o w) : PlayK m down A0 A1 c0 c1 p mb B o (w.setCell ⟨p, 4, none⟩ (.bool o)) :=
  ⟨h.blk.set 4 (.bool o), h.memo.at (Below.heap_setCell _ _ _ _ (fun e => h.ne e.symm)), h.ra.below (Below.setCell (Below.refl _ _) h.hp _), h.rb.below (Below.setCell (Below.refl _ _) h.hp _), h.hp, h.hm, h.ne⟩
theorem PlayK.stored (h : PlayK m down A0 A1 c0 c1 p mb B o w) (hg : w.grownBy w' (some mb)) (hm' : MapAll encS (Qc down m o) w' mb) : PlayK m down A0 A1 c0 c1 p mb B o w' := by
  have hb : Below B w w' := ⟨hg.os, hg.tape, hg.output, hg.size, fun k hk => hg.block k (by have := h.blk.lt; have := h.hp; omega) (fun e => by cases e; have := h.hm; omega)⟩
  exact ⟨h.blk.at (hg.block p h.blk.lt (fun e => h.ne (by cases e; rfl))), hm', h.ra.below hb, h.rb.below hb, h.hp, h.hm, h.ne⟩
/-- the asking of the map, in each world in which it is the same -/
theorem MapAll.lookup_all {κ : Type} [BEq κ] [LawfulBEq κ] [DecidableEq κ] {P : Program} {K : TypeId} {enc : κ → Value} {Q : κ → Value → Prop} (L : KeyLaws P K enc) {r : Nat} (h : MapAll enc Q w r) {T E : TypeId} (hT : P.underlying T = some (.map K E)) {z : Value} (hz : ∀ w, (zeroValue E).run P w = .ok z w) (k : κ) :
    ∃ v ok, (∀ W, W.heap[r]? = w.heap[r]? → (Instr.lookup T (.map (some r)) (enc k) true).run P W = .ok (.tuple #[v, .bool ok]) W) ∧ (ok = true → Q k v) ∧ (ok = false → v = z) := by
  obtain ⟨l, h1, h2⟩ := h
  refine ⟨_, _, fun W hW => (h1.at hW).lookup_ok L hT hz k, fun h => ?_, fun h => ?_⟩
  · obtain ⟨v, hv⟩ := Option.isSome_iff_exists.1 h
    rw [hv]; exact h2 _ (lookup_mem k l v hv)
  · rw [Option.isSome_eq_false_iff, Option.isNone_iff_eq_none] at h; rw [h]; rfl
end
def PlayPost (m : Riv) (down : Bool) (A0 A1 : Option Addr) (c0 c1 p mb B n : Nat) (l h : Int) (w : World) (e : Ending) (w' : World) : Prop :=
  ∃ x o, e = .returned (.int .i64 x) ∧ (0 ≤ x ∧ x ≤ 65536) ∧ (o = false → x = chanceP down m n l h ∧ playedOk m n l h) ∧ Kept2 p mb w w' ∧ PlayK m down A0 A1 c0 c1 p mb B o w'
def PlayOk (m : Riv) (down : Bool) (A0 A1 : Option Addr) (c0 c1 p mb B n : Nat) : Prop := ∀ (l h : Int) (w : World), -96 ≤ l → l ≤ 96 → (h = 0 ∨ h = 1) → PlayK m down A0 A1 c0 c1 p mb B false w →
  Calls Try.prog 19 #[.pointer (some ⟨p, 0, none⟩), .agg #[.int .i64 n, .int .i64 l, .int .i64 h]] w (PlayPost m down A0 A1 c0 c1 p mb B n l h w)
theorem zero_fix (w : World) : (zeroValue 41).run Try.prog w = .ok (.int .i64 0) w := by kernel_rfl
set_option maxRecDepth 100000 in
theorem chance_end (m : Riv) (down : Bool) (A0 A1 : Option Addr) (c0 c1 p mb B : Nat) (l h : Int) (w : World) (hl : ¬ l = 0) (hk : PlayK m down A0 A1 c0 c1 p mb B false w) :
    Calls Try.prog 19 #[.pointer (some ⟨p, 0, none⟩), .agg #[.int .i64 0, .int .i64 l, .int .i64 h]] w (PlayPost m down A0 A1 c0 c1 p mb B 0 l h w) := by
  have h2 : (l != 0) = true := by simpa using hl
  have HK := Aside.mk hk
  have hb : Below w.heap.size w (w.alloc (.cells #[.int .i64 0, .int .i64 l, .int .i64 h] 27)) := (by repeat (with_reducible first | exact Below.refl _ _ | assumption | refine Below.al ?_ _ | refine Below.dr ?_ | refine Below.drn ?_ _ | refine Below.sc ?_ (by simp <;> omega) _ | refine Below.th ?_ (by assumption)))
  have HB := Aside.mk hb
  have HP : ∀ x, x = chanceP down m 0 l h → (0 ≤ x ∧ x ≤ 65536) → PlayPost m down A0 A1 c0 c1 p mb B 0 l h w (.returned (.int .i64 x)) (w.alloc (.cells #[.int .i64 0, .int .i64 l, .int .i64 h] 27)) := fun x hx hx2 =>
    ⟨x, false, rfl, hx2, fun _ => ⟨hx, fun e => absurd e hl⟩, (Kept2.refl _ _ _).be hb, hk.be hb⟩
  have HP := Aside.mk HP
  have HL := Lib.hid hl
  clear hb hk hl
  by_cases hp : 0 < l
  · have HQ := Lib.hid hp
    go_enter Try.func19, Try.ntmps19
    go_wp2
    go_ret
    exact HP.out 65536 (by simp [chanceP, HL.out, HQ.out]) (by omega)
  · have HQ := Lib.hid hp
    go_enter Try.func19, Try.ntmps19
    go_wp2
    go_ret
    exact HP.out 0 (by simp [chanceP, HL.out, HQ.out]) (by omega)
theorem Blk.six {W : World} {b : Nat} {x0 x1 x2 x3 x4 x5 : Value} {T : TypeId} (X : Blk W b #[x0, x1, x2, x3, x4, x5] T) : (W.cell? ⟨b, 0, none⟩ = some x0 ∧ W.cell? ⟨b, 1, none⟩ = some x1 ∧ W.cell? ⟨b, 2, none⟩ = some x2) ∧ W.cell? ⟨b, 3, none⟩ = some x3 ∧ W.cell? ⟨b, 4, none⟩ = some x4 ∧ W.cell? ⟨b, 5, none⟩ = some x5 :=
  ⟨⟨by rw [X.cell]; rfl, by rw [X.cell]; rfl, by rw [X.cell]; rfl⟩, by rw [X.cell]; rfl, by rw [X.cell]; rfl, by rw [X.cell]; rfl⟩
/-- the counts of rivals whose ends are all known -/
def Cnt (m : Riv) : Prop := ∀ t, (1 ≤ (m.st t).length ∧ (m.st t).length ≤ 8) ∧ ∀ c ∈ m.st t, c.length = 17 ∧ ∀ i, (h : i < c.length) → 0 ≤ c[i] ∧ c[i] ≤ 2000000
/-- where chance stands between the styles: the best so far, of the first k ones -/
def ChOut (m : Riv) (down : Bool) (A0 A1 : Option Addr) (c0 c1 p mb B n : Nat) (l h : Int) (w : World) (k : Nat) (x : Int) (wr : World) : Prop :=
  ∃ o, Blk wr w.heap.size #[.int .i64 n, .int .i64 l, .int .i64 h] 27 ∧ PlayK m down A0 A1 c0 c1 p mb B o wr ∧ Kept2 p mb w wr ∧ (0 ≤ x ∧ x ≤ 65536) ∧
    (o = false → (1 ≤ k → x = pickV h (((m.st h).map (styleV down n (rowV (stepV down m n l h)))).take k) ∧ ∀ q, -8 ≤ q → q ≤ 8 → stepOk m n l h q) ∧ ∀ i, (hi : i < (m.st h).length) → i < k → sumI (countsH n (m.st h)[i]) ≠ 0) ∧ (o = true → 0 < n)
/-- .. and between the outcomes of a style -/
def ChIn (m : Riv) (down : Bool) (A0 A1 : Option Addr) (c0 c1 p mb B n : Nat) (l h : Int) (w : World) (k : Nat) (x : Int) (c : List Int) (j : Nat) (s q : Int) (wr : World) : Prop :=
  ∃ o, Blk wr w.heap.size #[.int .i64 n, .int .i64 l, .int .i64 h] 27 ∧ PlayK m down A0 A1 c0 c1 p mb B o wr ∧ Kept2 p mb w wr ∧ q = sumI ((countsH n c).take j) ∧ (0 ≤ q ∧ q ≤ 2000000 * j) ∧ (0 ≤ s ∧ s ≤ 65536 * q) ∧
    (o = false → (s = dotI ((countsH n c).take j) ((rowV (stepV down m n l h)).take j) ∧ (∀ q, -8 ≤ q → q < (j : Int) - 8 → stepOk m n l h q)) ∧ (1 ≤ k → x = pickV h (((m.st h).map (styleV down n (rowV (stepV down m n l h)))).take k)) ∧ ∀ i, (hi : i < (m.st h).length) → i < k → sumI (countsH n (m.st h)[i]) ≠ 0) ∧ (o = true → 0 < n)
theorem ChOut.more {m : Riv} {down : Bool} {A0 A1 : Option Addr} {c0 c1 p mb B n : Nat} {l h : Int} {w wr : World} {k : Nat} {x s q x' : Int} {c : List Int} {o : Bool} (hk : k < (m.st h).length) (hc : (m.st h)[k] = c) (X : Blk wr w.heap.size #[.int .i64 n, .int .i64 l, .int .i64 h] 27) (hK : PlayK m down A0 A1 c0 c1 p mb B o wr) (hkp : Kept2 p mb w wr)
    (hxb : 0 ≤ x ∧ x ≤ 65536) (hq : q = sumI (countsH n c)) (hsb : 0 ≤ s ∧ s ≤ 65536 * q) (hqp : 0 < q)
    (hinv : o = false → (s = dotI (countsH n c) (rowV (stepV down m n l h)) ∧ (∀ q, -8 ≤ q → q < 9 → stepOk m n l h q)) ∧ (1 ≤ k → x = pickV h (((m.st h).map (styleV down n (rowV (stepV down m n l h)))).take k)) ∧ ∀ i, (hi : i < (m.st h).length) → i < k → sumI (countsH n (m.st h)[i]) ≠ 0)
    (hop : o = true → 0 < n) (hx' : x' = if k = 0 then rdiv down s q else if h = 0 then max x (rdiv down s q) else min x (rdiv down s q)) : ChOut m down A0 A1 c0 c1 p mb B n l h w (k + 1) x' wr := by
  have hr := rdiv_in (down := down) hsb.1 hqp hsb.2
  have hkL : k < ((m.st h).map (styleV down n (rowV (stepV down m n l h)))).length := by rw [List.length_map]; exact hk
  refine ⟨o, X, hK, hkp, ?_, fun e => ?_, hop⟩
  · rw [hx']; split
    · exact hr
    · split <;> omega
  · obtain ⟨⟨i1, i2⟩, i3, i4⟩ := hinv e
    have hL : ((m.st h).map (styleV down n (rowV (stepV down m n l h))))[k] = rdiv down s q := by
      simp only [List.getElem_map, styleV, hc, i1, hq]
    refine ⟨fun _ => ⟨?_, fun q q0 q1 => i2 q q0 (by omega)⟩, fun i hi hik => ?_⟩
    · by_cases hk0 : k = 0
      · rw [hx', if_pos hk0, ← hL]
        subst hk0
        generalize (m.st h).map (styleV down n (rowV (stepV down m n l h))) = Lq at *
        cases Lq with
        | nil => simp at hkL
        | cons y t => rfl
      · rw [hx', if_neg hk0, pickV_snoc _ h k hkL (by omega), hL, ← i3 (by omega)]
    · by_cases hik2 : i = k
      · subst hik2
        intro e0
        rw [hc] at e0; omega
      · exact i4 i hi (by omega)
set_option maxHeartbeats 8000000 in
set_option maxRecDepth 100000 in
theorem chance_s0 (m : Riv) (hm : Cnt m) (down : Bool) (A0 A1 : Option Addr) (c0 c1 p mb B : Nat) (n : Nat) (l : Int) (w : World) (n12 : n + 1 ≤ 12) (l0 : -96 ≤ l) (l1 : l ≤ 96) (IH : PlayOk m down A0 A1 c0 c1 p mb B n) (hk : PlayK m down A0 A1 c0 c1 p mb B false w) :
    Calls Try.prog 19 #[.pointer (some ⟨p, 0, none⟩), .agg #[.int .i64 ((n : Int) + 1), .int .i64 l, .int .i64 0]] w (PlayPost m down A0 A1 c0 c1 p mb B (n + 1) l 0 w) := by
  have HP := Lib.hid (chanceP_eq down m (n + 1) l 0 (by omega))
  have KB : Below w.heap.size w (w.alloc (.cells #[.int .i64 ((n : Int) + 1), .int .i64 l, .int .i64 0] 27)) := (by repeat (with_reducible first | exact Below.refl _ _ | assumption | refine Below.al ?_ _ | refine Below.dr ?_ | refine Below.drn ?_ _ | refine Below.sc ?_ (by simp <;> omega) _ | refine Below.th ?_ (by assumption)))
  have X : Blk (w.alloc (.cells #[.int .i64 ((n : Int) + 1), .int .i64 l, .int .i64 0] 27)) w.heap.size #[.int .i64 ((n : Int) + 1), .int .i64 l, .int .i64 0] 27 := Blk.fresh _ _ _
  have hk1 := hk.be KB
  obtain ⟨vv, ok, hlk, hyes, hno⟩ := hk1.memo.lookup_all states Try.underlying48 zero_fix (((n : Int) + 1), l, 0)
  have hpw := hk.blk.lt
  have hmw := hk.memo.lt
  have hBp := hk.hp
  have hBm := hk.hm
  obtain ⟨hn8, hcs⟩ := hm 0
  rw [show m.st 0 = m.a from rfl] at hn8 hcs HP
  have HCS := Aside.mk hcs
  have HKP : Aside (Kept2 p mb w (w.alloc (.cells #[.int .i64 ((n : Int) + 1), .int .i64 l, .int .i64 0] 27))) := ⟨(Kept2.refl _ _ _).be KB⟩
  have KNX : Aside (∀ (q : Int) (w : World), -8 ≤ q → q ≤ 8 → Calls Try.prog 10 #[.agg #[.int .i64 ((n : Int) + 1), .int .i64 l, .int .i64 0], .int .i64 q] w fun e w' => e = .returned (.tuple #[.agg #[.int .i64 n, .int .i64 (nextL l 0 q), .int .i64 (nextH 0 q)], .int .i64 0]) ∧ Below w.heap.size w w') := ⟨fun q w q0 q1 => by
    have := Next_c ((n : Int) + 1) l 0 q w
    have es : (stOk ((n : Int) + 1) l 0 && inR q (-8) 8) = true := by simp only [stOk, Bool.and_eq_true, inR_iff]; omega
    rw [nextV, if_pos es, if_neg (by omega), show (n : Int) + 1 - 1 = n by omega] at this
    exact this⟩
  have KIH := Aside.mk (fun (q : Int) (w : World) hk => IH (nextL l 0 q) (nextH 0 q) w (nextL_bd l 0 q).1 (nextL_bd l 0 q).2 (nextH_bd q (by omega)) hk)
  have HRV : Aside (∀ j : Nat, (hj : j < (rowV (stepV down m (n + 1) l 0)).length) → (rowV (stepV down m (n + 1) l 0))[j] = chanceP down m n (nextL l 0 ((j : Int) - 8)) (nextH 0 ((j : Int) - 8))) := ⟨fun j hj => by simp [rowV, stepV]⟩
  have hrl : (rowV (stepV down m (n + 1) l 0)).length = 17 := by simp [rowV]
  have HRL := Lib.hid hrl
  unfold PlayPost at KIH
  clear hm hcs hk IH hrl
  simp only [encS] at hlk
  have hne : (((n : Int) + 1) == 0) = false := by simp; omega
  have hlk1 : ∀ k : Nat, (Instr.lookup 48 (.map (some mb)) (.agg #[.int .i64 ((n : Int) + 1), .int .i64 l, .int .i64 0]) true).run Try.prog ((w.alloc (.cells #[.int .i64 ((n : Int) + 1), .int .i64 l, .int .i64 0] 27)).drewN k) = .ok (.tuple #[vv, .bool ok]) ((w.alloc (.cells #[.int .i64 ((n : Int) + 1), .int .i64 l, .int .i64 0] 27)).drewN k) := fun k => hlk _ rfl
  go_enter Try.func19, Try.ntmps19
  go_wp2_with fail
  generalize w.alloc (.cells #[.int .i64 ((n : Int) + 1), .int .i64 l, .int .i64 0] 27) = v at *
  clear hlk
  obtain ⟨⟨p0, p1, p2⟩, p3, p4, p5⟩ := hk1.blk.six
  obtain ⟨s0, s1, s2⟩ := X.three
  cases ok
  · obtain rfl := hno rfl
    clear hyes hno
    go_quiet (fail)
    go_wp2_with fail
    have hbd : Below v.heap.size v (v.drewN nq) := Below.drn (Below.refl _ _) _
    have X := X.be hbd
    have hk1 := hk1.be hbd
    have HKP := Aside.mk (HKP.out.be hbd)
    clear hlk1 hbd p0 p1 p2 p3 p4 p5 s0 s1 s2
    generalize v.drewN nq = v1 at *
    obtain ⟨⟨p0, p1, p2⟩, p3, p4, p5⟩ := hk1.blk.six
    obtain ⟨s0, s1, s2⟩ := X.three
    go_quiet (fail)
    go_wp2_with fail
    have hbd : Below v1.heap.size v1 (v1.drewN nq) := Below.drn (Below.refl _ _) _
    have HC : Aside (ChOut m down A0 A1 c0 c1 p mb B (n + 1) l 0 w 0 0 (v1.drewN nq)) := ⟨⟨false, by simpa using X.be hbd, hk1.be hbd, HKP.out.be hbd, by omega, fun _ => ⟨fun h => by omega, fun i hi h => by omega⟩, (fun e => by cases e)⟩⟩
    clear p0 p1 p2 p3 p4 p5 s0 s1 s2 X hk1 HKP hbd hne
    generalize v1.drewN nq = v2 at *
    go_loopw [7, 8, 51] (fun u7 u8 i wr => ∃ (k : Nat) (x : Int), k ≤ m.a.length ∧ i = .int .i64 k ∧ u7 = .int .i64 x ∧ u8 = .bool (decide (0 < k)) ∧ Aside (ChOut m down A0 A1 c0 c1 p mb B (n + 1) l 0 w k x wr)) (fun _ _ i _ => m.a.length - (intOf i).toNat)
    case atStart => exact ⟨0, 0, by omega, rfl, rfl, rfl, HC⟩
    case round =>
      obtain ⟨k, x, hk8, rfl, rfl, rfl, HX⟩ := hrel
      obtain ⟨o, X, hK, hkp, hxb, hx, hop0⟩ := HX.out
      by_cases hlt : k < m.a.length
      · obtain ⟨b, ob, A', c', rfl, hb, hcell, hr⟩ := hK.ra.at hlt
        obtain ⟨h17, hbd⟩ := HCS.out _ (List.getElem_mem hlt)
        have hb2 : b < wr.heap.size := by have := hK.blk.lt; omega
        have HH17 := Lib.hid h17
        have HBD := Aside.mk hbd
        have HXX := Lib.hid hx
        rw [h17] at hcell
        have hxl := X.lt
        obtain ⟨s0, s1, s2⟩ := X.three
        have hArr := hr
        generalize hck : m.a[k] = c at *
        have HCK := Lib.hid hck
        have HI0 : Aside (ChIn m down (some ⟨b, ob, none⟩) A1 c0 c1 p mb B (n + 1) l 0 w k x c 0 0 0 wr ∧ ArrB B wr A' (ints c)) := ⟨⟨⟨o, X, hK, hkp, by simp [sumI], by omega, by omega, fun e => ⟨⟨by simp [dotI], fun q h1 h2 => by omega⟩, fun h => ((hx e).1 h).1, (hx e).2⟩, hop0⟩, hArr⟩⟩
        clear hck hArr hr hx HX
        go_wp2_with fail
        clear hcell s0 s1 s2 X hK hkp HXX
        rename_i W0
        go_loopw [11, 12, 57] (fun u11 u12 i57 wr => ∃ (j : Nat) (s q : Int), j ≤ 17 ∧ u11 = .int .i64 s ∧ u12 = .int .i64 q ∧ i57 = .int .i64 j ∧ Aside (ChIn m down (some ⟨b, ob, none⟩) A1 c0 c1 p mb B (n + 1) l 0 w k x c j s q wr ∧ ArrB B wr A' (ints c))) (fun _ _ i _ => 17 - (intOf i).toNat)
        case atStart => exact ⟨0, 0, 0, by omega, rfl, rfl, rfl, HI0⟩
        case round =>
          obtain ⟨j, s, q, hj17, rfl, rfl, rfl, HJ⟩ := hrel
          obtain ⟨⟨o, X, hK, hkp, hq, hqb, hsb, hinv, hop⟩, harr⟩ := HJ.out
          have hxl := X.lt
          obtain ⟨s0, s1, s2⟩ := X.three
          by_cases hjlt : j < 17
          · have hBw : B ≤ wr.heap.size := by have := hK.blk.lt; omega
            obtain ⟨b1, o1, rfl, hb1, hc1⟩ := (harr.arr hBw).int_at (i := j) (by have := HH17.out; omega)
            obtain ⟨cj0, cj1⟩ := HBD.out j (by have := HH17.out; omega)
            have HSN : Hid (sumI (c.take (j + 1)) = sumI (c.take j) + c[j] ∧ dotI (c.take (j + 1)) ((rowV (stepV down m (n + 1) l 0)).take (j + 1)) = dotI (c.take j) ((rowV (stepV down m (n + 1) l 0)).take j) + c[j] * chanceP down m n (nextL l 0 ((j : Int) - 8)) (nextH 0 ((j : Int) - 8))) := ⟨sumI_snoc c j (by have := HH17.out; omega), by rw [dotI_snoc c _ j (by have := HH17.out; omega) (by have := HRL.out; omega), HRV.out]⟩
            generalize c[j] = cj at *
            have HINV := Lib.hid hinv
            have HQ := Lib.hid hq
            have HAR := Aside.mk harr
            have KN1 := Aside.mk (fun w => KNX.out ((j : Int) - 8) w (by omega) (by omega))
            have KI1 := Aside.mk (fun w hk => KIH.out ((j : Int) - 8) w hk)
            obtain ⟨⟨p0, p1, p2⟩, p3, p4, p5⟩ := hK.blk.six
            clear hq hinv harr hop HJ
            go_wp2_with fail
            refine KN1.out _ |>.mono ?_
            rintro e v3 ⟨rfl, zb⟩
            have HSTEP : Aside (playedOk m n (nextL l 0 ((j : Int) - 8)) (nextH 0 ((j : Int) - 8)) → stepOk m (n + 1) l 0 ((j : Int) - 8)) := ⟨fun h => h⟩
            generalize nextL l 0 ((j : Int) - 8) = L at *
            generalize nextH 0 ((j : Int) - 8) = H at *
            have hwp : w.heap.size ≠ p := by have := hpw; omega
            have hwm : w.heap.size ≠ mb := by have := hmw; omega
            have X3 := (X.be zb).al (.cells #[.int .i64 n, .int .i64 L, .int .i64 H] 27)
            have K3 := (hK.be zb).be (Below.al (Below.refl _ _) (.cells #[.int .i64 n, .int .i64 L, .int .i64 H] 27))
            have kp3 := (hkp.be zb).be (Below.al (Below.refl _ _) (.cells #[.int .i64 n, .int .i64 L, .int .i64 H] 27))
            have AR3 := (HAR.out.below (zb.mono hBw)).below ((Below.refl B v3).alloc (by have := zb.size; omega) (.cells #[.int .i64 n, .int .i64 L, .int .i64 H] 27))
            have T3 := Blk.fresh v3 #[.int .i64 n, .int .i64 L, .int .i64 H] 27
            have hp3 : ¬ p = v3.heap.size ∧ ¬ v3.heap.size = p := by have := (hK.be zb).blk.lt; omega
            obtain ⟨hp3a, hp3b⟩ := hp3
            have hm3 : v3.heap.size ≠ mb := by have := (hK.be zb).memo.lt; omega
            clear zb p0 p1 p2 p3 p4 p5 s0 s1 s2 X hK hkp
            have p4 := K3.blk.six.2.2.1
            have pf := K3.blk.frozen 4
            have pl := K3.blk.lt
            obtain ⟨t0, t1, t2⟩ := T3.three
            have s0' := X3.three.1
            have s2' := X3.three.2.2
            cases o
            · have K4 := K3.same
              have kp4 := kp3.sp 4 (.bool false)
              have X4 := X3.other ⟨p, 4, none⟩ (.bool false) hwp
              have AR4 := AR3.below (Below.setCell (Below.refl B _) (p := ⟨p, 4, none⟩) hBp (.bool false))
              go_wp2_with fail
              refine (KI1.out _ K4).mono ?_
              rintro e w2 ⟨vv, o2, rfl, ⟨hv0, hv1⟩, hvo, kp5, K5⟩
              have kp6 := kp4.th kp5
              have X6 := X4.kept2 kp5 hwp hwm
              have AR6 := AR4.below (kp5.below hBp hBm (by have := K4.blk.lt; omega))
              have hm0 := Int.mul_nonneg hv0 cj0
              have hm1 := Int.mul_le_mul_of_nonneg_right hv1 cj0
              have hm2 : vv * cj ≤ 131072000000 := by omega
              have HI : Aside (ChIn m down (some ⟨b, ob, none⟩) A1 c0 c1 p mb B (n + 1) l 0 w k x c (j + 1) (s + vv * cj) (q + cj) w2 ∧ ArrB B w2 (some ⟨b1, o1, none⟩) (ints c)) := by
                refine ⟨⟨o2, X6, K5, kp6, ?_, ⟨by omega, by omega⟩, ⟨by omega, by omega⟩, fun e => ?_, fun _ => by omega⟩, AR6⟩
                · show q + cj = sumI (c.take (j + 1))
                  rw [HSN.out.1, HQ.out]; rfl
                · obtain ⟨⟨i1, i2⟩, i3, i4⟩ := HINV.out (by first | trivial | rfl)
                  obtain ⟨ve, vok⟩ := hvo e
                  refine ⟨⟨?_, fun q q0 q1 => ?_⟩, i3, i4⟩
                  · show s + vv * cj = dotI (c.take (j + 1)) _
                    rw [HSN.out.2, i1, ve, Int.mul_comm]; rfl
                  · by_cases hq : q = (j : Int) - 8
                    · subst hq; exact HSTEP.out vok
                    · exact i2 q q0 (by omega)
              clear kp5 K5 kp6 X6 AR6 X4 K4 kp4 X3 K3 kp3 AR3 T3 hvo AR4
              go_wp2
              go_roundw
              case rel => exact ⟨j + 1, s + vv * cj, q + cj, by omega, rfl, rfl, by go_num, HI⟩
              case measure => simp [intOf]; omega
            · have K4 := K3.same
              have kp4 := kp3.sp 4 (.bool true)
              have HE : Aside (PlayPost m down (some ⟨b, ob, none⟩) A1 c0 c1 p mb B (n + 1) l 0 w (.returned (.int .i64 0)) _) := ⟨⟨0, true, rfl, by omega, (fun e => by cases e), kp4, K4⟩⟩
              clear K4 kp4
              go_wp2
              go_ret
              exact HE.out
          · obtain rfl : j = 17 := by omega
            have h17l : (c.take 17) = c := List.take_of_length_le (by have := HH17.out; omega)
            have e0 : countsH (n + 1) c = c := rfl
            rw [e0, h17l] at hq hinv
            have hrl17 : (rowV (stepV down m (n + 1) l 0)).take 17 = rowV (stepV down m (n + 1) l 0) := List.take_of_length_le (by have := HRL.out; omega)
            rw [hrl17] at hinv
            clear h17l e0 hrl17
            have HQ := Lib.hid hq
            have HINV := Lib.hid hinv
            obtain ⟨⟨p0, p1, p2⟩, p3, p4, p5⟩ := hK.blk.six
            have pf := hK.blk.frozen 4
            have pl := hK.blk.lt
            have HKK := Aside.mk (And.intro hK (And.intro hkp X))
            clear hq hinv HJ hK hkp X
            by_cases hq0 : q = 0
            · have HE : Aside (PlayPost m down (some ⟨b, ob, none⟩) A1 c0 c1 p mb B (n + 1) l 0 w (.returned (.int .i64 0)) (wr.setCell ⟨p, 4, none⟩ (.bool true))) := ⟨⟨0, true, rfl, by omega, (fun e => by cases e), HKK.out.2.1.sp 4 _, HKK.out.1.odd⟩⟩
              have HQ0 := Lib.hid hq0
              subst hq0
              go_wp2
              go_ret
              exact HE.out
            · have hqp : 0 < q := by omega
              have hq1 : 1 ≤ q := by omega
              have MORE : Aside (∀ x', x' = (if k = 0 then rdiv down s q else if (0 : Int) = 0 then max x (rdiv down s q) else min x (rdiv down s q)) → ChOut m down (some ⟨b, ob, none⟩) A1 c0 c1 p mb B (n + 1) l 0 w (k + 1) x' wr) := ⟨fun x' hx' => ChOut.more (m := m) (h := 0) hlt HCK.out HKK.out.2.2 HKK.out.1 HKK.out.2.1 hxb HQ.out hsb hqp (fun e => by have h := HINV.out e; exact ⟨⟨h.1.1, fun q q0 q1 => h.1.2 q q0 (by omega)⟩, h.2⟩) hop hx'⟩
              have rdv := Int.ediv_nonneg hsb.1 (show 0 ≤ q by omega)
              have rdu : s / q ≤ 65536 := Int.ediv_le_of_le_mul hqp hsb.2
              clear HKK HINV HQ
              cases down
              · have HR := Lib.hid (rdiv_up s q hsb.1 hqp)
                by_cases hrem : 0 < s % q
                · by_cases hk0 : 0 < k
                  · by_cases hcmp : x < s / q + 1
                    all_goals
                      go_wp2
                      go_roundw
                      case rel => exact ⟨k + 1, _, by omega, by go_num, rfl, (by simp <;> omega), ⟨MORE.out _ (by rw [if_neg (by omega), if_pos rfl, HR.out, if_pos hrem]; omega)⟩⟩
                      case measure => simp [intOf]; omega
                  · go_wp2
                    go_roundw
                    case rel => exact ⟨k + 1, _, by omega, by go_num, rfl, (by simp <;> omega), ⟨MORE.out _ (by rw [if_pos (by omega), HR.out, if_pos hrem])⟩⟩
                    case measure => simp [intOf]; omega
                · by_cases hk0 : 0 < k
                  · by_cases hcmp : x < s / q
                    all_goals
                      go_wp2
                      go_roundw
                      case rel => exact ⟨k + 1, _, by omega, by go_num, rfl, (by simp <;> omega), ⟨MORE.out _ (by rw [if_neg (by omega), if_pos rfl, HR.out, if_neg hrem]; omega)⟩⟩
                      case measure => simp [intOf]; omega
                  · go_wp2
                    go_roundw
                    case rel => exact ⟨k + 1, _, by omega, by go_num, rfl, (by simp <;> omega), ⟨MORE.out _ (by rw [if_pos (by omega), HR.out, if_neg hrem])⟩⟩
                    case measure => simp [intOf]; omega
              · have HR := Lib.hid (show rdiv true s q = s / q from rfl)
                by_cases hk0 : 0 < k
                · by_cases hcmp : x < s / q
                  all_goals
                    go_wp2
                    go_roundw
                    case rel => exact ⟨k + 1, _, by omega, by go_num, rfl, (by simp <;> omega), ⟨MORE.out _ (by rw [if_neg (by omega), if_pos rfl, HR.out]; omega)⟩⟩
                    case measure => simp [intOf]; omega
                · go_wp2
                  go_roundw
                  case rel => exact ⟨k + 1, _, by omega, by go_num, rfl, (by simp <;> omega), ⟨MORE.out _ (by rw [if_pos (by omega), HR.out])⟩⟩
                  case measure => simp [intOf]; omega
      · obtain rfl : k = m.a.length := by omega
        have hbd : Below wr.heap.size wr wr.drew := Below.dr (Below.refl _ _)
        have hxo : o = false → x = chanceP down m (n + 1) l 0 ∧ playedOk m (n + 1) l 0 := fun e => by
          obtain ⟨i1, i2⟩ := hx e
          obtain ⟨j1, j2⟩ := i1 (by omega)
          refine ⟨?_, playedOk_of (fun c hc => ?_) j2⟩
          · rw [j1, HP.out, List.take_of_length_le (by rw [List.length_map]; exact Nat.le_refl _)]; rfl
          · obtain ⟨i, hi, rfl⟩ := List.mem_iff_getElem.1 hc
            exact i2 i hi hi
        have hxo' : o = false → x = chanceP down m ((n : Int) + 1).toNat l 0 ∧ playedOk m ((n : Int) + 1).toNat l 0 := fun e => by
          have h := hxo e
          rw [show ((n : Int) + 1).toNat = n + 1 by omega]; exact h
        have K2 := hK.be hbd
        obtain ⟨v7, hrun, hmemo, hgr⟩ := K2.memo.store states (stays_S _) Try.underlying48 (((n : Int) + 1), l, 0) (.int .i64 x) ⟨x, rfl, hxb, hxo'⟩
        simp only [encS] at hrun
        have HE : Aside (PlayPost m down A0 A1 c0 c1 p mb B (n + 1) l 0 w (.returned (.int .i64 x)) v7) := ⟨⟨x, o, rfl, hxb, hxo, (hkp.be hbd).gr hgr, K2.stored hgr hmemo⟩⟩
        obtain ⟨s0, s1, s2⟩ := X.three
        obtain ⟨_, _, _, p5⟩ := hK.blk.six
        have hxl := X.lt
        have hpl := hK.blk.lt
        clear hmemo hgr K2 hbd hxo hxo' hx HX hkp hK X
        go_wp2_with fail
        go_region
        go_wp2
        go_ret
        exact HE.out
  · obtain ⟨x, rfl, hx, hq⟩ := hyes rfl
    have HX := Aside.mk hx
    have hq' : false = false → x = chanceP down m (n + 1) l 0 ∧ playedOk m (n + 1) l 0 := fun e => by
      have h : x = chanceP down m ((n : Int) + 1).toNat l 0 ∧ playedOk m ((n : Int) + 1).toNat l 0 := hq e
      rw [show ((n : Int) + 1).toNat = n + 1 by omega] at h; exact h
    clear hq
    have HQ := Lib.hid hq'
    have HK1 := Aside.mk hk1
    clear hno hq' hx hk1
    go_quiet (fail)
    go_wp2
    go_ret
    exact ⟨x, false, rfl, HX.out, fun _ => HQ.out (by first | trivial | rfl), HKP.out.be (Below.drn (Below.refl _ _) _), HK1.out.be (Below.drn (Below.refl _ _) _)⟩
end Go.Proofs.Ytjbgdpbeabakiaa
namespace Go.Proofs.Ytjbgdpbeabakiaa
open Go.RowKit Go.Shelf
set_option linter.unusedVariables false
set_option linter.unusedSimpArgs false
attribute [local go_sem] Oper.semAt_some
set_option maxHeartbeats 8000000 in
set_option maxRecDepth 100000 in
theorem chance_s1 (m : Riv) (hm : Cnt m) (down : Bool) (A0 A1 : Option Addr) (c0 c1 p mb B : Nat) (n : Nat) (l : Int) (w : World) (n12 : n + 1 ≤ 12) (l0 : -96 ≤ l) (l1 : l ≤ 96) (IH : PlayOk m down A0 A1 c0 c1 p mb B n) (hk : PlayK m down A0 A1 c0 c1 p mb B false w) :
    Calls Try.prog 19 #[.pointer (some ⟨p, 0, none⟩), .agg #[.int .i64 ((n : Int) + 1), .int .i64 l, .int .i64 1]] w (PlayPost m down A0 A1 c0 c1 p mb B (n + 1) l 1 w) := by
  have HP := Lib.hid (chanceP_eq down m (n + 1) l 1 (by omega))
  have KB : Below w.heap.size w (w.alloc (.cells #[.int .i64 ((n : Int) + 1), .int .i64 l, .int .i64 1] 27)) := (by repeat (with_reducible first | exact Below.refl _ _ | assumption | refine Below.al ?_ _ | refine Below.dr ?_ | refine Below.drn ?_ _ | refine Below.sc ?_ (by simp <;> omega) _ | refine Below.th ?_ (by assumption)))
  have X : Blk (w.alloc (.cells #[.int .i64 ((n : Int) + 1), .int .i64 l, .int .i64 1] 27)) w.heap.size #[.int .i64 ((n : Int) + 1), .int .i64 l, .int .i64 1] 27 := Blk.fresh _ _ _
  have hk1 := hk.be KB
  obtain ⟨vv, ok, hlk, hyes, hno⟩ := hk1.memo.lookup_all states Try.underlying48 zero_fix (((n : Int) + 1), l, 1)
  have hpw := hk.blk.lt
  have hmw := hk.memo.lt
  have hBp := hk.hp
  have hBm := hk.hm
  obtain ⟨hn8, hcs⟩ := hm 1
  rw [show m.st 1 = m.b from rfl] at hn8 hcs HP
  have HCS := Aside.mk hcs
  have HKP : Aside (Kept2 p mb w (w.alloc (.cells #[.int .i64 ((n : Int) + 1), .int .i64 l, .int .i64 1] 27))) := ⟨(Kept2.refl _ _ _).be KB⟩
  have KNX : Aside (∀ (q : Int) (w : World), -8 ≤ q → q ≤ 8 → Calls Try.prog 10 #[.agg #[.int .i64 ((n : Int) + 1), .int .i64 l, .int .i64 1], .int .i64 q] w fun e w' => e = .returned (.tuple #[.agg #[.int .i64 n, .int .i64 (nextL l 1 q), .int .i64 (nextH 1 q)], .int .i64 0]) ∧ Below w.heap.size w w') := ⟨fun q w q0 q1 => by
    have := Next_c ((n : Int) + 1) l 1 q w
    have es : (stOk ((n : Int) + 1) l 1 && inR q (-8) 8) = true := by simp only [stOk, Bool.and_eq_true, inR_iff]; omega
    rw [nextV, if_pos es, if_neg (by omega), show (n : Int) + 1 - 1 = n by omega] at this
    exact this⟩
  have KIH := Aside.mk (fun (q : Int) (w : World) hk => IH (nextL l 1 q) (nextH 1 q) w (nextL_bd l 1 q).1 (nextL_bd l 1 q).2 (nextH_bd q (by omega)) hk)
  have HRV : Aside (∀ j : Nat, (hj : j < (rowV (stepV down m (n + 1) l 1)).length) → (rowV (stepV down m (n + 1) l 1))[j] = chanceP down m n (nextL l 1 ((j : Int) - 8)) (nextH 1 ((j : Int) - 8))) := ⟨fun j hj => by simp [rowV, stepV]⟩
  have hrl : (rowV (stepV down m (n + 1) l 1)).length = 17 := by simp [rowV]
  have HRL := Lib.hid hrl
  unfold PlayPost at KIH
  clear hm hcs hk IH hrl
  simp only [encS] at hlk
  have hne : (((n : Int) + 1) == 0) = false := by simp; omega
  have hlk1 : ∀ k : Nat, (Instr.lookup 48 (.map (some mb)) (.agg #[.int .i64 ((n : Int) + 1), .int .i64 l, .int .i64 1]) true).run Try.prog ((w.alloc (.cells #[.int .i64 ((n : Int) + 1), .int .i64 l, .int .i64 1] 27)).drewN k) = .ok (.tuple #[vv, .bool ok]) ((w.alloc (.cells #[.int .i64 ((n : Int) + 1), .int .i64 l, .int .i64 1] 27)).drewN k) := fun k => hlk _ rfl
  go_enter Try.func19, Try.ntmps19
  go_wp2_with fail
  generalize w.alloc (.cells #[.int .i64 ((n : Int) + 1), .int .i64 l, .int .i64 1] 27) = v at *
  clear hlk
  obtain ⟨⟨p0, p1, p2⟩, p3, p4, p5⟩ := hk1.blk.six
  obtain ⟨s0, s1, s2⟩ := X.three
  cases ok
  · obtain rfl := hno rfl
    clear hyes hno
    go_quiet (fail)
    go_wp2_with fail
    have hbd : Below v.heap.size v (v.drewN nq) := Below.drn (Below.refl _ _) _
    have X := X.be hbd
    have hk1 := hk1.be hbd
    have HKP := Aside.mk (HKP.out.be hbd)
    clear hlk1 hbd p0 p1 p2 p3 p4 p5 s0 s1 s2
    generalize v.drewN nq = v1 at *
    obtain ⟨⟨p0, p1, p2⟩, p3, p4, p5⟩ := hk1.blk.six
    obtain ⟨s0, s1, s2⟩ := X.three
    go_quiet (fail)
    go_wp2_with fail
    have hbd : Below v1.heap.size v1 (v1.drewN nq) := Below.drn (Below.refl _ _) _
    have HC : Aside (ChOut m down A0 A1 c0 c1 p mb B (n + 1) l 1 w 0 0 (v1.drewN nq)) := ⟨⟨false, by simpa using X.be hbd, hk1.be hbd, HKP.out.be hbd, by omega, fun _ => ⟨fun h => by omega, fun i hi h => by omega⟩, (fun e => by cases e)⟩⟩
    clear p0 p1 p2 p3 p4 p5 s0 s1 s2 X hk1 HKP hbd hne
    generalize v1.drewN nq = v2 at *
    go_loopw [7, 8, 51] (fun u7 u8 i wr => ∃ (k : Nat) (x : Int), k ≤ m.b.length ∧ i = .int .i64 k ∧ u7 = .int .i64 x ∧ u8 = .bool (decide (0 < k)) ∧ Aside (ChOut m down A0 A1 c0 c1 p mb B (n + 1) l 1 w k x wr)) (fun _ _ i _ => m.b.length - (intOf i).toNat)
    case atStart => exact ⟨0, 0, by omega, rfl, rfl, rfl, HC⟩
    case round =>
      obtain ⟨k, x, hk8, rfl, rfl, rfl, HX⟩ := hrel
      obtain ⟨o, X, hK, hkp, hxb, hx, hop0⟩ := HX.out
      by_cases hlt : k < m.b.length
      · obtain ⟨b, ob, A', c', rfl, hb, hcell, hr⟩ := hK.rb.at hlt
        obtain ⟨h17, hbd⟩ := HCS.out _ (List.getElem_mem hlt)
        have hb2 : b < wr.heap.size := by have := hK.blk.lt; omega
        have HH17 := Lib.hid h17
        have HBD := Aside.mk hbd
        have HXX := Lib.hid hx
        rw [h17] at hcell
        have hxl := X.lt
        obtain ⟨s0, s1, s2⟩ := X.three
        have hArr := hr
        generalize hck : m.b[k] = c at *
        have HCK := Lib.hid hck
        have HI0 : Aside (ChIn m down A0 (some ⟨b, ob, none⟩) c0 c1 p mb B (n + 1) l 1 w k x c 0 0 0 wr ∧ ArrB B wr A' (ints c)) := ⟨⟨⟨o, X, hK, hkp, by simp [sumI], by omega, by omega, fun e => ⟨⟨by simp [dotI], fun q h1 h2 => by omega⟩, fun h => ((hx e).1 h).1, (hx e).2⟩, hop0⟩, hArr⟩⟩
        clear hck hArr hr hx HX
        go_wp2_with fail
        clear hcell s0 s1 s2 X hK hkp HXX
        rename_i W0
        go_loopw [11, 12, 57] (fun u11 u12 i57 wr => ∃ (j : Nat) (s q : Int), j ≤ 17 ∧ u11 = .int .i64 s ∧ u12 = .int .i64 q ∧ i57 = .int .i64 j ∧ Aside (ChIn m down A0 (some ⟨b, ob, none⟩) c0 c1 p mb B (n + 1) l 1 w k x c j s q wr ∧ ArrB B wr A' (ints c))) (fun _ _ i _ => 17 - (intOf i).toNat)
        case atStart => exact ⟨0, 0, 0, by omega, rfl, rfl, rfl, HI0⟩
        case round =>
          obtain ⟨j, s, q, hj17, rfl, rfl, rfl, HJ⟩ := hrel
          obtain ⟨⟨o, X, hK, hkp, hq, hqb, hsb, hinv, hop⟩, harr⟩ := HJ.out
          have hxl := X.lt
          obtain ⟨s0, s1, s2⟩ := X.three
          by_cases hjlt : j < 17
          · have hBw : B ≤ wr.heap.size := by have := hK.blk.lt; omega
            obtain ⟨b1, o1, rfl, hb1, hc1⟩ := (harr.arr hBw).int_at (i := j) (by have := HH17.out; omega)
            obtain ⟨cj0, cj1⟩ := HBD.out j (by have := HH17.out; omega)
            have HSN : Hid (sumI (c.take (j + 1)) = sumI (c.take j) + c[j] ∧ dotI (c.take (j + 1)) ((rowV (stepV down m (n + 1) l 1)).take (j + 1)) = dotI (c.take j) ((rowV (stepV down m (n + 1) l 1)).take j) + c[j] * chanceP down m n (nextL l 1 ((j : Int) - 8)) (nextH 1 ((j : Int) - 8))) := ⟨sumI_snoc c j (by have := HH17.out; omega), by rw [dotI_snoc c _ j (by have := HH17.out; omega) (by have := HRL.out; omega), HRV.out]⟩
            generalize c[j] = cj at *
            have HINV := Lib.hid hinv
            have HQ := Lib.hid hq
            have HAR := Aside.mk harr
            have KN1 := Aside.mk (fun w => KNX.out ((j : Int) - 8) w (by omega) (by omega))
            have KI1 := Aside.mk (fun w hk => KIH.out ((j : Int) - 8) w hk)
            obtain ⟨⟨p0, p1, p2⟩, p3, p4, p5⟩ := hK.blk.six
            clear hq hinv harr hop HJ
            go_wp2_with fail
            refine KN1.out _ |>.mono ?_
            rintro e v3 ⟨rfl, zb⟩
            have HSTEP : Aside (playedOk m n (nextL l 1 ((j : Int) - 8)) (nextH 1 ((j : Int) - 8)) → stepOk m (n + 1) l 1 ((j : Int) - 8)) := ⟨fun h => h⟩
            generalize nextL l 1 ((j : Int) - 8) = L at *
            generalize nextH 1 ((j : Int) - 8) = H at *
            have hwp : w.heap.size ≠ p := by have := hpw; omega
            have hwm : w.heap.size ≠ mb := by have := hmw; omega
            have X3 := (X.be zb).al (.cells #[.int .i64 n, .int .i64 L, .int .i64 H] 27)
            have K3 := (hK.be zb).be (Below.al (Below.refl _ _) (.cells #[.int .i64 n, .int .i64 L, .int .i64 H] 27))
            have kp3 := (hkp.be zb).be (Below.al (Below.refl _ _) (.cells #[.int .i64 n, .int .i64 L, .int .i64 H] 27))
            have AR3 := (HAR.out.below (zb.mono hBw)).below ((Below.refl B v3).alloc (by have := zb.size; omega) (.cells #[.int .i64 n, .int .i64 L, .int .i64 H] 27))
            have T3 := Blk.fresh v3 #[.int .i64 n, .int .i64 L, .int .i64 H] 27
            have hp3 : ¬ p = v3.heap.size ∧ ¬ v3.heap.size = p := by have := (hK.be zb).blk.lt; omega
            obtain ⟨hp3a, hp3b⟩ := hp3
            have hm3 : v3.heap.size ≠ mb := by have := (hK.be zb).memo.lt; omega
            clear zb p0 p1 p2 p3 p4 p5 s0 s1 s2 X hK hkp
            have p4 := K3.blk.six.2.2.1
            have pf := K3.blk.frozen 4
            have pl := K3.blk.lt
            obtain ⟨t0, t1, t2⟩ := T3.three
            have s0' := X3.three.1
            have s2' := X3.three.2.2
            cases o
            · have K4 := K3.same
              have kp4 := kp3.sp 4 (.bool false)
              have X4 := X3.other ⟨p, 4, none⟩ (.bool false) hwp
              have AR4 := AR3.below (Below.setCell (Below.refl B _) (p := ⟨p, 4, none⟩) hBp (.bool false))
              go_wp2_with fail
              refine (KI1.out _ K4).mono ?_
              rintro e w2 ⟨vv, o2, rfl, ⟨hv0, hv1⟩, hvo, kp5, K5⟩
              have kp6 := kp4.th kp5
              have X6 := X4.kept2 kp5 hwp hwm
              have AR6 := AR4.below (kp5.below hBp hBm (by have := K4.blk.lt; omega))
              have hm0 := Int.mul_nonneg hv0 cj0
              have hm1 := Int.mul_le_mul_of_nonneg_right hv1 cj0
              have hm2 : vv * cj ≤ 131072000000 := by omega
              have HI : Aside (ChIn m down A0 (some ⟨b, ob, none⟩) c0 c1 p mb B (n + 1) l 1 w k x c (j + 1) (s + vv * cj) (q + cj) w2 ∧ ArrB B w2 (some ⟨b1, o1, none⟩) (ints c)) := by
                refine ⟨⟨o2, X6, K5, kp6, ?_, ⟨by omega, by omega⟩, ⟨by omega, by omega⟩, fun e => ?_, fun _ => by omega⟩, AR6⟩
                · show q + cj = sumI (c.take (j + 1))
                  rw [HSN.out.1, HQ.out]; rfl
                · obtain ⟨⟨i1, i2⟩, i3, i4⟩ := HINV.out (by first | trivial | rfl)
                  obtain ⟨ve, vok⟩ := hvo e
                  refine ⟨⟨?_, fun q q0 q1 => ?_⟩, i3, i4⟩
                  · show s + vv * cj = dotI (c.take (j + 1)) _
                    rw [HSN.out.2, i1, ve, Int.mul_comm]; rfl
                  · by_cases hq : q = (j : Int) - 8
                    · subst hq; exact HSTEP.out vok
                    · exact i2 q q0 (by omega)
              clear kp5 K5 kp6 X6 AR6 X4 K4 kp4 X3 K3 kp3 AR3 T3 hvo AR4
              go_wp2
              go_roundw
              case rel => exact ⟨j + 1, s + vv * cj, q + cj, by omega, rfl, rfl, by go_num, HI⟩
              case measure => simp [intOf]; omega
            · have K4 := K3.same
              have kp4 := kp3.sp 4 (.bool true)
              have HE : Aside (PlayPost m down A0 (some ⟨b, ob, none⟩) c0 c1 p mb B (n + 1) l 1 w (.returned (.int .i64 0)) _) := ⟨⟨0, true, rfl, by omega, (fun e => by cases e), kp4, K4⟩⟩
              clear K4 kp4
              go_wp2
              go_ret
              exact HE.out
          · obtain rfl : j = 17 := by omega
            have h17l : (c.take 17) = c := List.take_of_length_le (by have := HH17.out; omega)
            have e0 : countsH (n + 1) c = c := rfl
            rw [e0, h17l] at hq hinv
            have hrl17 : (rowV (stepV down m (n + 1) l 1)).take 17 = rowV (stepV down m (n + 1) l 1) := List.take_of_length_le (by have := HRL.out; omega)
            rw [hrl17] at hinv
            clear h17l e0 hrl17
            have HQ := Lib.hid hq
            have HINV := Lib.hid hinv
            obtain ⟨⟨p0, p1, p2⟩, p3, p4, p5⟩ := hK.blk.six
            have pf := hK.blk.frozen 4
            have pl := hK.blk.lt
            have HKK := Aside.mk (And.intro hK (And.intro hkp X))
            clear hq hinv HJ hK hkp X
            by_cases hq0 : q = 0
            · have HE : Aside (PlayPost m down A0 (some ⟨b, ob, none⟩) c0 c1 p mb B (n + 1) l 1 w (.returned (.int .i64 0)) (wr.setCell ⟨p, 4, none⟩ (.bool true))) := ⟨⟨0, true, rfl, by omega, (fun e => by cases e), HKK.out.2.1.sp 4 _, HKK.out.1.odd⟩⟩
              have HQ0 := Lib.hid hq0
              subst hq0
              go_wp2
              go_ret
              exact HE.out
            · have hqp : 0 < q := by omega
              have hq1 : 1 ≤ q := by omega
              have MORE : Aside (∀ x', x' = (if k = 0 then rdiv down s q else if (1 : Int) = 0 then max x (rdiv down s q) else min x (rdiv down s q)) → ChOut m down A0 (some ⟨b, ob, none⟩) c0 c1 p mb B (n + 1) l 1 w (k + 1) x' wr) := ⟨fun x' hx' => ChOut.more (m := m) (h := 1) hlt HCK.out HKK.out.2.2 HKK.out.1 HKK.out.2.1 hxb HQ.out hsb hqp (fun e => by have h := HINV.out e; exact ⟨⟨h.1.1, fun q q0 q1 => h.1.2 q q0 (by omega)⟩, h.2⟩) hop hx'⟩
              have rdv := Int.ediv_nonneg hsb.1 (show 0 ≤ q by omega)
              have rdu : s / q ≤ 65536 := Int.ediv_le_of_le_mul hqp hsb.2
              clear HKK HINV HQ
              cases down
              · have HR := Lib.hid (rdiv_up s q hsb.1 hqp)
                by_cases hrem : 0 < s % q
                · by_cases hk0 : 0 < k
                  · by_cases hcmp : s / q + 1 < x
                    all_goals
                      go_wp2
                      go_roundw
                      case rel => exact ⟨k + 1, _, by omega, by go_num, rfl, (by simp <;> omega), ⟨MORE.out _ (by rw [if_neg (by omega), if_neg (by omega), HR.out, if_pos hrem]; omega)⟩⟩
                      case measure => simp [intOf]; omega
                  · go_wp2
                    go_roundw
                    case rel => exact ⟨k + 1, _, by omega, by go_num, rfl, (by simp <;> omega), ⟨MORE.out _ (by rw [if_pos (by omega), HR.out, if_pos hrem])⟩⟩
                    case measure => simp [intOf]; omega
                · by_cases hk0 : 0 < k
                  · by_cases hcmp : s / q < x
                    all_goals
                      go_wp2
                      go_roundw
                      case rel => exact ⟨k + 1, _, by omega, by go_num, rfl, (by simp <;> omega), ⟨MORE.out _ (by rw [if_neg (by omega), if_neg (by omega), HR.out, if_neg hrem]; omega)⟩⟩
                      case measure => simp [intOf]; omega
                  · go_wp2
                    go_roundw
                    case rel => exact ⟨k + 1, _, by omega, by go_num, rfl, (by simp <;> omega), ⟨MORE.out _ (by rw [if_pos (by omega), HR.out, if_neg hrem])⟩⟩
                    case measure => simp [intOf]; omega
              · have HR := Lib.hid (show rdiv true s q = s / q from rfl)
                by_cases hk0 : 0 < k
                · by_cases hcmp : s / q < x
                  all_goals
                    go_wp2
                    go_roundw
                    case rel => exact ⟨k + 1, _, by omega, by go_num, rfl, (by simp <;> omega), ⟨MORE.out _ (by rw [if_neg (by omega), if_neg (by omega), HR.out]; omega)⟩⟩
                    case measure => simp [intOf]; omega
                · go_wp2
                  go_roundw
                  case rel => exact ⟨k + 1, _, by omega, by go_num, rfl, (by simp <;> omega), ⟨MORE.out _ (by rw [if_pos (by omega), HR.out])⟩⟩
                  case measure => simp [intOf]; omega
      · obtain rfl : k = m.b.length := by omega
        have hbd : Below wr.heap.size wr wr.drew := Below.dr (Below.refl _ _)
        have hxo : o = false → x = chanceP down m (n + 1) l 1 ∧ playedOk m (n + 1) l 1 := fun e => by
          obtain ⟨i1, i2⟩ := hx e
          obtain ⟨j1, j2⟩ := i1 (by omega)
          refine ⟨?_, playedOk_of (fun c hc => ?_) j2⟩
          · rw [j1, HP.out, List.take_of_length_le (by rw [List.length_map]; exact Nat.le_refl _)]; rfl
          · obtain ⟨i, hi, rfl⟩ := List.mem_iff_getElem.1 hc
            exact i2 i hi hi
        have hxo' : o = false → x = chanceP down m ((n : Int) + 1).toNat l 1 ∧ playedOk m ((n : Int) + 1).toNat l 1 := fun e => by
          have h := hxo e
          rw [show ((n : Int) + 1).toNat = n + 1 by omega]; exact h
        have K2 := hK.be hbd
        obtain ⟨v7, hrun, hmemo, hgr⟩ := K2.memo.store states (stays_S _) Try.underlying48 (((n : Int) + 1), l, 1) (.int .i64 x) ⟨x, rfl, hxb, hxo'⟩
        simp only [encS] at hrun
        have HE : Aside (PlayPost m down A0 A1 c0 c1 p mb B (n + 1) l 1 w (.returned (.int .i64 x)) v7) := ⟨⟨x, o, rfl, hxb, hxo, (hkp.be hbd).gr hgr, K2.stored hgr hmemo⟩⟩
        obtain ⟨s0, s1, s2⟩ := X.three
        obtain ⟨_, _, _, p5⟩ := hK.blk.six
        have hxl := X.lt
        have hpl := hK.blk.lt
        clear hmemo hgr K2 hbd hxo hxo' hx HX hkp hK X
        go_wp2_with fail
        go_region
        go_wp2
        go_ret
        exact HE.out
  · obtain ⟨x, rfl, hx, hq⟩ := hyes rfl
    have HX := Aside.mk hx
    have hq' : false = false → x = chanceP down m (n + 1) l 1 ∧ playedOk m (n + 1) l 1 := fun e => by
      have h : x = chanceP down m ((n : Int) + 1).toNat l 1 ∧ playedOk m ((n : Int) + 1).toNat l 1 := hq e
      rw [show ((n : Int) + 1).toNat = n + 1 by omega] at h; exact h
    clear hq
    have HQ := Lib.hid hq'
    have HK1 := Aside.mk hk1
    clear hno hq' hx hk1
    go_quiet (fail)
    go_wp2
    go_ret
    exact ⟨x, false, rfl, HX.out, fun _ => HQ.out (by first | trivial | rfl), HKP.out.be (Below.drn (Below.refl _ _) _), HK1.out.be (Below.drn (Below.refl _ _) _)⟩
end Go.Proofs.Ytjbgdpbeabakiaa
namespace Go.Proofs.Ytjbgdpbeabakiaa
open Go.RowKit Go.Shelf
set_option linter.unusedVariables false
set_option linter.unusedSimpArgs false
attribute [local go_sem] Oper.semAt_some
set_option maxHeartbeats 8000000 in
set_option maxRecDepth 100000 in
theorem chance_z0 (m : Riv) (hm : Cnt m) (down : Bool) (A0 A1 : Option Addr) (c0 c1 p mb B : Nat) (w : World) (hk : PlayK m down A0 A1 c0 c1 p mb B false w) :
    Calls Try.prog 19 #[.pointer (some ⟨p, 0, none⟩), .agg #[.int .i64 0, .int .i64 0, .int .i64 0]] w (PlayPost m down A0 A1 c0 c1 p mb B 0 0 0 w) := by
  have HP := Lib.hid (chanceP_eq down m 0 0 0 (by omega))
  have KB : Below w.heap.size w (w.alloc (.cells #[.int .i64 0, .int .i64 0, .int .i64 0] 27)) := (by repeat (with_reducible first | exact Below.refl _ _ | assumption | refine Below.al ?_ _ | refine Below.dr ?_ | refine Below.drn ?_ _ | refine Below.sc ?_ (by simp <;> omega) _ | refine Below.th ?_ (by assumption)))
  have X : Blk (w.alloc (.cells #[.int .i64 0, .int .i64 0, .int .i64 0] 27)) w.heap.size #[.int .i64 0, .int .i64 0, .int .i64 0] 27 := Blk.fresh _ _ _
  have hk1 := hk.be KB
  obtain ⟨vv, ok, hlk, hyes, hno⟩ := hk1.memo.lookup_all states Try.underlying48 zero_fix ((0 : Int), (0 : Int), (0 : Int))
  have hpw := hk.blk.lt
  have hmw := hk.memo.lt
  have hBp := hk.hp
  have hBm := hk.hm
  obtain ⟨hn8, hcs⟩ := hm 0
  rw [show m.st 0 = m.a from rfl] at hn8 hcs HP
  have HCS := Aside.mk hcs
  have HKP : Aside (Kept2 p mb w (w.alloc (.cells #[.int .i64 0, .int .i64 0, .int .i64 0] 27))) := ⟨(Kept2.refl _ _ _).be KB⟩
  have HRV : Aside (∀ j : Nat, (hj : j < (rowV (stepV down m 0 0 0)).length) → (rowV (stepV down m 0 0 0))[j] = winV 0 ((j : Int) - 8)) := ⟨fun j hj => by simp [rowV, stepV]⟩
  have hrl : (rowV (stepV down m 0 0 0)).length = 17 := by simp [rowV]
  have HRL := Lib.hid hrl
  clear hm hcs hk hrl
  simp only [encS] at hlk
  have hlk1 : ∀ k : Nat, (Instr.lookup 48 (.map (some mb)) (.agg #[.int .i64 0, .int .i64 0, .int .i64 0]) true).run Try.prog ((w.alloc (.cells #[.int .i64 0, .int .i64 0, .int .i64 0] 27)).drewN k) = .ok (.tuple #[vv, .bool ok]) ((w.alloc (.cells #[.int .i64 0, .int .i64 0, .int .i64 0] 27)).drewN k) := fun k => hlk _ rfl
  go_enter Try.func19, Try.ntmps19
  go_wp2_with fail
  generalize w.alloc (.cells #[.int .i64 0, .int .i64 0, .int .i64 0] 27) = v at *
  clear hlk
  obtain ⟨⟨p0, p1, p2⟩, p3, p4, p5⟩ := hk1.blk.six
  obtain ⟨s0, s1, s2⟩ := X.three
  cases ok
  · obtain rfl := hno rfl
    clear hyes hno
    go_quiet (fail)
    go_wp2_with fail
    have hbd : Below v.heap.size v (v.drewN nq) := Below.drn (Below.refl _ _) _
    have X := X.be hbd
    have hk1 := hk1.be hbd
    have HKP := Aside.mk (HKP.out.be hbd)
    clear hlk1 hbd p0 p1 p2 p3 p4 p5 s0 s1 s2
    generalize v.drewN nq = v1 at *
    obtain ⟨⟨p0, p1, p2⟩, p3, p4, p5⟩ := hk1.blk.six
    obtain ⟨s0, s1, s2⟩ := X.three
    go_quiet (fail)
    go_wp2_with fail
    have hbd : Below v1.heap.size v1 (v1.drewN nq) := Below.drn (Below.refl _ _) _
    have HC : Aside (ChOut m down A0 A1 c0 c1 p mb B 0 0 0 w 0 0 (v1.drewN nq)) := ⟨⟨false, by simpa using X.be hbd, hk1.be hbd, HKP.out.be hbd, by omega, fun _ => ⟨fun h => by omega, fun i hi h => by omega⟩, (fun e => by cases e)⟩⟩
    clear p0 p1 p2 p3 p4 p5 s0 s1 s2 X hk1 HKP hbd
    generalize v1.drewN nq = v2 at *
    go_loopw [7, 8, 51] (fun u7 u8 i wr => ∃ (k : Nat) (x : Int), k ≤ m.a.length ∧ i = .int .i64 k ∧ u7 = .int .i64 x ∧ u8 = .bool (decide (0 < k)) ∧ Aside (ChOut m down A0 A1 c0 c1 p mb B 0 0 0 w k x wr)) (fun _ _ i _ => m.a.length - (intOf i).toNat)
    case atStart => exact ⟨0, 0, by omega, rfl, rfl, rfl, HC⟩
    case round =>
      obtain ⟨k, x, hk8, rfl, rfl, rfl, HX⟩ := hrel
      obtain ⟨o, X, hK, hkp, hxb, hx, hop0⟩ := HX.out
      by_cases hlt : k < m.a.length
      · obtain ⟨b, ob, A', c', rfl, hb, hcell, hr⟩ := hK.ra.at hlt
        obtain ⟨h17, hbd⟩ := HCS.out _ (List.getElem_mem hlt)
        have hb2 : b < wr.heap.size := by have := hK.blk.lt; omega
        have HH17 := Lib.hid h17
        have HBD := Aside.mk hbd
        have HXX := Lib.hid hx
        rw [h17] at hcell
        have hxl := X.lt
        obtain ⟨s0, s1, s2⟩ := X.three
        have hArr := hr
        generalize hck : m.a[k] = c at *
        have HCK := Lib.hid hck
        have HSET : Hid ((countsH 0 c).length = 17 ∧ ∀ (j : Nat) (h : j < (countsH 0 c).length) (h' : j < c.length), (countsH 0 c)[j] = if j = 8 then 0 else c[j]) := ⟨by simpa [countsH] using h17, fun j h h' => by simp only [countsH, if_true, List.getElem_set]; split <;> split <;> first | rfl | omega⟩
        have HI0 : Aside (ChIn m down (some ⟨b, ob, none⟩) A1 c0 c1 p mb B 0 0 0 w k x c 0 0 0 wr ∧ ArrB B wr A' (ints c)) := ⟨⟨⟨o, X, hK, hkp, by simp [sumI], by omega, by omega, fun e => ⟨⟨by simp [dotI], fun q h1 h2 => by omega⟩, fun h => ((hx e).1 h).1, (hx e).2⟩, hop0⟩, hArr⟩⟩
        clear hck hArr hr hx HX
        go_wp2_with fail
        clear hcell s0 s1 s2 X hK hkp HXX
        rename_i W0
        go_loopw [11, 12, 57] (fun u11 u12 i57 wr => ∃ (j : Nat) (s q : Int), j ≤ 17 ∧ u11 = .int .i64 s ∧ u12 = .int .i64 q ∧ i57 = .int .i64 j ∧ Aside (ChIn m down (some ⟨b, ob, none⟩) A1 c0 c1 p mb B 0 0 0 w k x c j s q wr ∧ ArrB B wr A' (ints c))) (fun _ _ i _ => 17 - (intOf i).toNat)
        case atStart => exact ⟨0, 0, 0, by omega, rfl, rfl, rfl, HI0⟩
        case round =>
          obtain ⟨j, s, q, hj17, rfl, rfl, rfl, HJ⟩ := hrel
          obtain ⟨⟨o, X, hK, hkp, hq, hqb, hsb, hinv, hop⟩, harr⟩ := HJ.out
          have hxl := X.lt
          obtain ⟨s0, s1, s2⟩ := X.three
          by_cases hjlt : j < 17
          · have hBw : B ≤ wr.heap.size := by have := hK.blk.lt; omega
            obtain ⟨b1, o1, rfl, hb1, hc1⟩ := (harr.arr hBw).int_at (i := j) (by have := HH17.out; omega)
            obtain ⟨cj0, cj1⟩ := HBD.out j (by have := HH17.out; omega)
            have ho : o = false := by cases o <;> simp at hop ⊢
            subst ho
            have hl1 : j < (countsH 0 c).length := by have := HSET.out.1; omega
            have HSN : Hid (sumI ((countsH 0 c).take (j + 1)) = sumI ((countsH 0 c).take j) + (if j = 8 then 0 else c[j]'(by have := HH17.out; omega)) ∧ dotI ((countsH 0 c).take (j + 1)) ((rowV (stepV down m 0 0 0)).take (j + 1)) = dotI ((countsH 0 c).take j) ((rowV (stepV down m 0 0 0)).take j) + (if j = 8 then 0 else c[j]'(by have := HH17.out; omega)) * winV 0 ((j : Int) - 8)) := ⟨by rw [sumI_snoc _ j hl1, HSET.out.2], by rw [dotI_snoc _ _ j hl1 (by have := HRL.out; omega), HRV.out, HSET.out.2]⟩
            generalize c[j]'_ = cj at *
            have HINV := Lib.hid hinv
            have HQ := Lib.hid hq
            have HAR := Aside.mk harr
            have NEXT : Aside (∀ s' q', q' = q + (if j = 8 then 0 else cj) → s' = s + (if j = 8 then 0 else cj) * winV 0 ((j : Int) - 8) → ChIn m down (some ⟨b, ob, none⟩) A1 c0 c1 p mb B 0 0 0 w k x c (j + 1) s' q' wr) := ⟨fun s' q' hq' hs' => by
              have hw : 0 ≤ winV 0 ((j : Int) - 8) ∧ winV 0 ((j : Int) - 8) ≤ 65536 := by unfold winV; split <;> omega
              have hc : 0 ≤ (if j = 8 then 0 else cj) ∧ (if j = 8 then 0 else cj) ≤ 2000000 := by split <;> omega
              generalize (if j = 8 then 0 else cj) = d at *
              have m0 := Int.mul_nonneg hc.1 hw.1
              have m1 := Int.mul_le_mul_of_nonneg_left hw.2 hc.1
              refine ⟨false, X, hK, hkp, ?_, ⟨by omega, by omega⟩, ⟨by omega, by omega⟩, fun e => ?_, fun e => by cases e⟩
              · rw [hq', HSN.out.1, HQ.out]
              · obtain ⟨⟨i1, i2⟩, i3, i4⟩ := HINV.out rfl
                exact ⟨⟨by rw [hs', HSN.out.2, i1], fun q _ _ => trivial⟩, i3, i4⟩⟩
            have hsp : 0 ≤ 65536 * cj := by omega
            clear hq hinv harr hop HJ hK hkp X
            by_cases h8 : j = 8
            · have hz : (((j : Int) - 8) == 0) = true := by simp; omega
              have HI : Aside (ChIn m down (some ⟨b, ob, none⟩) A1 c0 c1 p mb B 0 0 0 w k x c (j + 1) s q wr ∧ ArrB B wr (some ⟨b1, o1, none⟩) (ints c)) := ⟨⟨NEXT.out s q (by rw [if_pos h8]; omega) (by rw [if_pos h8]; omega), HAR.out⟩⟩
              have H8 := Lib.hid h8
              clear h8 NEXT
              go_wp2
              go_roundw
              case rel => exact ⟨j + 1, s, q, by omega, rfl, rfl, by go_num, HI⟩
              case measure => simp [intOf]; omega
            · have hz : (((j : Int) - 8) == 0) = false := by simp; omega
              by_cases hp : 8 < j
              · have hpA : 0 < (j : Int) - 8 := by omega
                have hpB : (8 : Int) < j := by omega
                have HI : Aside (ChIn m down (some ⟨b, ob, none⟩) A1 c0 c1 p mb B 0 0 0 w k x c (j + 1) (s + 65536 * cj) (q + cj) wr ∧ ArrB B wr (some ⟨b1, o1, none⟩) (ints c)) := ⟨⟨NEXT.out _ _ (by rw [if_neg h8]) (by rw [if_neg h8]; simp [winV, hpA, hpB]; omega), HAR.out⟩⟩
                clear NEXT
                go_wp2
                go_roundw
                case rel => exact ⟨j + 1, s + 65536 * cj, q + cj, by omega, by first | rfl | (simp; done) | (simp; omega), rfl, by go_num, HI⟩
                case measure => simp [intOf]; omega
              · have hpA : ¬ 0 < (j : Int) - 8 := by omega
                have hpB : ¬ (8 : Int) < j := by omega
                have HI : Aside (ChIn m down (some ⟨b, ob, none⟩) A1 c0 c1 p mb B 0 0 0 w k x c (j + 1) s (q + cj) wr ∧ ArrB B wr (some ⟨b1, o1, none⟩) (ints c)) := ⟨⟨NEXT.out _ _ (by rw [if_neg h8]) (by rw [if_neg h8]; simp [winV, hpA, hpB]), HAR.out⟩⟩
                clear NEXT
                go_wp2
                go_roundw
                case rel => exact ⟨j + 1, s, q + cj, by omega, by first | rfl | (simp; done) | (simp; omega), rfl, by go_num, HI⟩
                case measure => simp [intOf]; omega
          · obtain rfl : j = 17 := by omega
            have h17l : ((countsH 0 c).take 17) = countsH 0 c := List.take_of_length_le (by have := HSET.out.1; omega)
            rw [h17l] at hq hinv
            have hrl17 : (rowV (stepV down m 0 0 0)).take 17 = rowV (stepV down m 0 0 0) := List.take_of_length_le (by have := HRL.out; omega)
            rw [hrl17] at hinv
            clear h17l hrl17
            have HQ := Lib.hid hq
            have HINV := Lib.hid hinv
            obtain ⟨⟨p0, p1, p2⟩, p3, p4, p5⟩ := hK.blk.six
            have pf := hK.blk.frozen 4
            have pl := hK.blk.lt
            have HKK := Aside.mk (And.intro hK (And.intro hkp X))
            clear hq hinv HJ hK hkp X
            by_cases hq0 : q = 0
            · have HE : Aside (PlayPost m down (some ⟨b, ob, none⟩) A1 c0 c1 p mb B 0 0 0 w (.returned (.int .i64 0)) (wr.setCell ⟨p, 4, none⟩ (.bool true))) := ⟨⟨0, true, rfl, by omega, (fun e => by cases e), HKK.out.2.1.sp 4 _, HKK.out.1.odd⟩⟩
              have HQ0 := Lib.hid hq0
              subst hq0
              go_wp2
              go_ret
              exact HE.out
            · have hqp : 0 < q := by omega
              have hq1 : 1 ≤ q := by omega
              have MORE : Aside (∀ x', x' = (if k = 0 then rdiv down s q else if (0 : Int) = 0 then max x (rdiv down s q) else min x (rdiv down s q)) → ChOut m down (some ⟨b, ob, none⟩) A1 c0 c1 p mb B 0 0 0 w (k + 1) x' wr) := ⟨fun x' hx' => ChOut.more (m := m) (h := 0) hlt HCK.out HKK.out.2.2 HKK.out.1 HKK.out.2.1 hxb HQ.out hsb hqp (fun e => by have h := HINV.out e; exact ⟨⟨h.1.1, fun q q0 q1 => h.1.2 q q0 (by omega)⟩, h.2⟩) hop hx'⟩
              have rdv := Int.ediv_nonneg hsb.1 (show 0 ≤ q by omega)
              have rdu : s / q ≤ 65536 := Int.ediv_le_of_le_mul hqp hsb.2
              clear HKK HINV HQ
              cases down
              · have HR := Lib.hid (rdiv_up s q hsb.1 hqp)
                by_cases hrem : 0 < s % q
                · by_cases hk0 : 0 < k
                  · by_cases hcmp : x < s / q + 1
                    all_goals
                      go_wp2
                      go_roundw
                      case rel => exact ⟨k + 1, _, by omega, by go_num, rfl, (by simp <;> omega), ⟨MORE.out _ (by rw [if_neg (by omega), if_pos rfl, HR.out, if_pos hrem]; omega)⟩⟩
                      case measure => simp [intOf]; omega
                  · go_wp2
                    go_roundw
                    case rel => exact ⟨k + 1, _, by omega, by go_num, rfl, (by simp <;> omega), ⟨MORE.out _ (by rw [if_pos (by omega), HR.out, if_pos hrem])⟩⟩
                    case measure => simp [intOf]; omega
                · by_cases hk0 : 0 < k
                  · by_cases hcmp : x < s / q
                    all_goals
                      go_wp2
                      go_roundw
                      case rel => exact ⟨k + 1, _, by omega, by go_num, rfl, (by simp <;> omega), ⟨MORE.out _ (by rw [if_neg (by omega), if_pos rfl, HR.out, if_neg hrem]; omega)⟩⟩
                      case measure => simp [intOf]; omega
                  · go_wp2
                    go_roundw
                    case rel => exact ⟨k + 1, _, by omega, by go_num, rfl, (by simp <;> omega), ⟨MORE.out _ (by rw [if_pos (by omega), HR.out, if_neg hrem])⟩⟩
                    case measure => simp [intOf]; omega
              · have HR := Lib.hid (show rdiv true s q = s / q from rfl)
                by_cases hk0 : 0 < k
                · by_cases hcmp : x < s / q
                  all_goals
                    go_wp2
                    go_roundw
                    case rel => exact ⟨k + 1, _, by omega, by go_num, rfl, (by simp <;> omega), ⟨MORE.out _ (by rw [if_neg (by omega), if_pos rfl, HR.out]; omega)⟩⟩
                    case measure => simp [intOf]; omega
                · go_wp2
                  go_roundw
                  case rel => exact ⟨k + 1, _, by omega, by go_num, rfl, (by simp <;> omega), ⟨MORE.out _ (by rw [if_pos (by omega), HR.out])⟩⟩
                  case measure => simp [intOf]; omega
      · obtain rfl : k = m.a.length := by omega
        have hbd : Below wr.heap.size wr wr.drew := Below.dr (Below.refl _ _)
        have hxo : o = false → x = chanceP down m 0 0 0 ∧ playedOk m 0 0 0 := fun e => by
          obtain ⟨i1, i2⟩ := hx e
          obtain ⟨j1, j2⟩ := i1 (by omega)
          refine ⟨?_, playedOk_of (fun c hc => ?_) j2⟩
          · rw [j1, HP.out, List.take_of_length_le (by rw [List.length_map]; exact Nat.le_refl _)]; rfl
          · obtain ⟨i, hi, rfl⟩ := List.mem_iff_getElem.1 hc
            exact i2 i hi hi
        have hxo' : o = false → x = chanceP down m (0 : Int).toNat 0 0 ∧ playedOk m (0 : Int).toNat 0 0 := fun e => hxo e
        have K2 := hK.be hbd
        obtain ⟨v7, hrun, hmemo, hgr⟩ := K2.memo.store states (stays_S _) Try.underlying48 ((0 : Int), (0 : Int), (0 : Int)) (.int .i64 x) ⟨x, rfl, hxb, hxo'⟩
        simp only [encS] at hrun
        have HE : Aside (PlayPost m down A0 A1 c0 c1 p mb B 0 0 0 w (.returned (.int .i64 x)) v7) := ⟨⟨x, o, rfl, hxb, hxo, (hkp.be hbd).gr hgr, K2.stored hgr hmemo⟩⟩
        obtain ⟨s0, s1, s2⟩ := X.three
        obtain ⟨_, _, _, p5⟩ := hK.blk.six
        have hxl := X.lt
        have hpl := hK.blk.lt
        clear hmemo hgr K2 hbd hxo hxo' hx HX hkp hK X
        go_wp2_with fail
        go_region
        go_wp2
        go_ret
        exact HE.out
  · obtain ⟨x, rfl, hx, hq⟩ := hyes rfl
    have HX := Aside.mk hx
    have hq' : false = false → x = chanceP down m 0 0 0 ∧ playedOk m 0 0 0 := fun e => hq e
    clear hq
    have HQ := Lib.hid hq'
    have HK1 := Aside.mk hk1
    clear hno hq' hx hk1
    go_quiet (fail)
    go_wp2
    go_ret
    exact ⟨x, false, rfl, HX.out, fun _ => HQ.out (by first | trivial | rfl), HKP.out.be (Below.drn (Below.refl _ _) _), HK1.out.be (Below.drn (Below.refl _ _) _)⟩
set_option maxHeartbeats 8000000 in
set_option maxRecDepth 100000 in
theorem chance_z1 (m : Riv) (hm : Cnt m) (down : Bool) (A0 A1 : Option Addr) (c0 c1 p mb B : Nat) (w : World) (hk : PlayK m down A0 A1 c0 c1 p mb B false w) :
    Calls Try.prog 19 #[.pointer (some ⟨p, 0, none⟩), .agg #[.int .i64 0, .int .i64 0, .int .i64 1]] w (PlayPost m down A0 A1 c0 c1 p mb B 0 0 1 w) := by
  have HP := Lib.hid (chanceP_eq down m 0 0 1 (by omega))
  have KB : Below w.heap.size w (w.alloc (.cells #[.int .i64 0, .int .i64 0, .int .i64 1] 27)) := (by repeat (with_reducible first | exact Below.refl _ _ | assumption | refine Below.al ?_ _ | refine Below.dr ?_ | refine Below.drn ?_ _ | refine Below.sc ?_ (by simp <;> omega) _ | refine Below.th ?_ (by assumption)))
  have X : Blk (w.alloc (.cells #[.int .i64 0, .int .i64 0, .int .i64 1] 27)) w.heap.size #[.int .i64 0, .int .i64 0, .int .i64 1] 27 := Blk.fresh _ _ _
  have hk1 := hk.be KB
  obtain ⟨vv, ok, hlk, hyes, hno⟩ := hk1.memo.lookup_all states Try.underlying48 zero_fix ((0 : Int), (0 : Int), (1 : Int))
  have hpw := hk.blk.lt
  have hmw := hk.memo.lt
  have hBp := hk.hp
  have hBm := hk.hm
  obtain ⟨hn8, hcs⟩ := hm 1
  rw [show m.st 1 = m.b from rfl] at hn8 hcs HP
  have HCS := Aside.mk hcs
  have HKP : Aside (Kept2 p mb w (w.alloc (.cells #[.int .i64 0, .int .i64 0, .int .i64 1] 27))) := ⟨(Kept2.refl _ _ _).be KB⟩
  have HRV : Aside (∀ j : Nat, (hj : j < (rowV (stepV down m 0 0 1)).length) → (rowV (stepV down m 0 0 1))[j] = winV 1 ((j : Int) - 8)) := ⟨fun j hj => by simp [rowV, stepV]⟩
  have hrl : (rowV (stepV down m 0 0 1)).length = 17 := by simp [rowV]
  have HRL := Lib.hid hrl
  clear hm hcs hk hrl
  simp only [encS] at hlk
  have hlk1 : ∀ k : Nat, (Instr.lookup 48 (.map (some mb)) (.agg #[.int .i64 0, .int .i64 0, .int .i64 1]) true).run Try.prog ((w.alloc (.cells #[.int .i64 0, .int .i64 0, .int .i64 1] 27)).drewN k) = .ok (.tuple #[vv, .bool ok]) ((w.alloc (.cells #[.int .i64 0, .int .i64 0, .int .i64 1] 27)).drewN k) := fun k => hlk _ rfl
  go_enter Try.func19, Try.ntmps19
  go_wp2_with fail
  generalize w.alloc (.cells #[.int .i64 0, .int .i64 0, .int .i64 1] 27) = v at *
  clear hlk
  obtain ⟨⟨p0, p1, p2⟩, p3, p4, p5⟩ := hk1.blk.six
  obtain ⟨s0, s1, s2⟩ := X.three
  cases ok
  · obtain rfl := hno rfl
    clear hyes hno
    go_quiet (fail)
    go_wp2_with fail
    have hbd : Below v.heap.size v (v.drewN nq) := Below.drn (Below.refl _ _) _
    have X := X.be hbd
    have hk1 := hk1.be hbd
    have HKP := Aside.mk (HKP.out.be hbd)
    clear hlk1 hbd p0 p1 p2 p3 p4 p5 s0 s1 s2
    generalize v.drewN nq = v1 at *
    obtain ⟨⟨p0, p1, p2⟩, p3, p4, p5⟩ := hk1.blk.six
    obtain ⟨s0, s1, s2⟩ := X.three
    go_quiet (fail)
    go_wp2_with fail
    have hbd : Below v1.heap.size v1 (v1.drewN nq) := Below.drn (Below.refl _ _) _
    have HC : Aside (ChOut m down A0 A1 c0 c1 p mb B 0 0 1 w 0 0 (v1.drewN nq)) := ⟨⟨false, by simpa using X.be hbd, hk1.be hbd, HKP.out.be hbd, by omega, fun _ => ⟨fun h => by omega, fun i hi h => by omega⟩, (fun e => by cases e)⟩⟩
    clear p0 p1 p2 p3 p4 p5 s0 s1 s2 X hk1 HKP hbd
    generalize v1.drewN nq = v2 at *
    go_loopw [7, 8, 51] (fun u7 u8 i wr => ∃ (k : Nat) (x : Int), k ≤ m.b.length ∧ i = .int .i64 k ∧ u7 = .int .i64 x ∧ u8 = .bool (decide (0 < k)) ∧ Aside (ChOut m down A0 A1 c0 c1 p mb B 0 0 1 w k x wr)) (fun _ _ i _ => m.b.length - (intOf i).toNat)
    case atStart => exact ⟨0, 0, by omega, rfl, rfl, rfl, HC⟩
    case round =>
      obtain ⟨k, x, hk8, rfl, rfl, rfl, HX⟩ := hrel
      obtain ⟨o, X, hK, hkp, hxb, hx, hop0⟩ := HX.out
      by_cases hlt : k < m.b.length
      · obtain ⟨b, ob, A', c', rfl, hb, hcell, hr⟩ := hK.rb.at hlt
        obtain ⟨h17, hbd⟩ := HCS.out _ (List.getElem_mem hlt)
        have hb2 : b < wr.heap.size := by have := hK.blk.lt; omega
        have HH17 := Lib.hid h17
        have HBD := Aside.mk hbd
        have HXX := Lib.hid hx
        rw [h17] at hcell
        have hxl := X.lt
        obtain ⟨s0, s1, s2⟩ := X.three
        have hArr := hr
        generalize hck : m.b[k] = c at *
        have HCK := Lib.hid hck
        have HSET : Hid ((countsH 0 c).length = 17 ∧ ∀ (j : Nat) (h : j < (countsH 0 c).length) (h' : j < c.length), (countsH 0 c)[j] = if j = 8 then 0 else c[j]) := ⟨by simpa [countsH] using h17, fun j h h' => by simp only [countsH, if_true, List.getElem_set]; split <;> split <;> first | rfl | omega⟩
        have HI0 : Aside (ChIn m down A0 (some ⟨b, ob, none⟩) c0 c1 p mb B 0 0 1 w k x c 0 0 0 wr ∧ ArrB B wr A' (ints c)) := ⟨⟨⟨o, X, hK, hkp, by simp [sumI], by omega, by omega, fun e => ⟨⟨by simp [dotI], fun q h1 h2 => by omega⟩, fun h => ((hx e).1 h).1, (hx e).2⟩, hop0⟩, hArr⟩⟩
        clear hck hArr hr hx HX
        go_wp2_with fail
        clear hcell s0 s1 s2 X hK hkp HXX
        rename_i W0
        go_loopw [11, 12, 57] (fun u11 u12 i57 wr => ∃ (j : Nat) (s q : Int), j ≤ 17 ∧ u11 = .int .i64 s ∧ u12 = .int .i64 q ∧ i57 = .int .i64 j ∧ Aside (ChIn m down A0 (some ⟨b, ob, none⟩) c0 c1 p mb B 0 0 1 w k x c j s q wr ∧ ArrB B wr A' (ints c))) (fun _ _ i _ => 17 - (intOf i).toNat)
        case atStart => exact ⟨0, 0, 0, by omega, rfl, rfl, rfl, HI0⟩
        case round =>
          obtain ⟨j, s, q, hj17, rfl, rfl, rfl, HJ⟩ := hrel
          obtain ⟨⟨o, X, hK, hkp, hq, hqb, hsb, hinv, hop⟩, harr⟩ := HJ.out
          have hxl := X.lt
          obtain ⟨s0, s1, s2⟩ := X.three
          by_cases hjlt : j < 17
          · have hBw : B ≤ wr.heap.size := by have := hK.blk.lt; omega
            obtain ⟨b1, o1, rfl, hb1, hc1⟩ := (harr.arr hBw).int_at (i := j) (by have := HH17.out; omega)
            obtain ⟨cj0, cj1⟩ := HBD.out j (by have := HH17.out; omega)
            have ho : o = false := by cases o <;> simp at hop ⊢
            subst ho
            have hl1 : j < (countsH 0 c).length := by have := HSET.out.1; omega
            have HSN : Hid (sumI ((countsH 0 c).take (j + 1)) = sumI ((countsH 0 c).take j) + (if j = 8 then 0 else c[j]'(by have := HH17.out; omega)) ∧ dotI ((countsH 0 c).take (j + 1)) ((rowV (stepV down m 0 0 1)).take (j + 1)) = dotI ((countsH 0 c).take j) ((rowV (stepV down m 0 0 1)).take j) + (if j = 8 then 0 else c[j]'(by have := HH17.out; omega)) * winV 1 ((j : Int) - 8)) := ⟨by rw [sumI_snoc _ j hl1, HSET.out.2], by rw [dotI_snoc _ _ j hl1 (by have := HRL.out; omega), HRV.out, HSET.out.2]⟩
            generalize c[j]'_ = cj at *
            have HINV := Lib.hid hinv
            have HQ := Lib.hid hq
            have HAR := Aside.mk harr
            have NEXT : Aside (∀ s' q', q' = q + (if j = 8 then 0 else cj) → s' = s + (if j = 8 then 0 else cj) * winV 1 ((j : Int) - 8) → ChIn m down A0 (some ⟨b, ob, none⟩) c0 c1 p mb B 0 0 1 w k x c (j + 1) s' q' wr) := ⟨fun s' q' hq' hs' => by
              have hw : 0 ≤ winV 1 ((j : Int) - 8) ∧ winV 1 ((j : Int) - 8) ≤ 65536 := by unfold winV; split <;> omega
              have hc : 0 ≤ (if j = 8 then 0 else cj) ∧ (if j = 8 then 0 else cj) ≤ 2000000 := by split <;> omega
              generalize (if j = 8 then 0 else cj) = d at *
              have m0 := Int.mul_nonneg hc.1 hw.1
              have m1 := Int.mul_le_mul_of_nonneg_left hw.2 hc.1
              refine ⟨false, X, hK, hkp, ?_, ⟨by omega, by omega⟩, ⟨by omega, by omega⟩, fun e => ?_, fun e => by cases e⟩
              · rw [hq', HSN.out.1, HQ.out]
              · obtain ⟨⟨i1, i2⟩, i3, i4⟩ := HINV.out rfl
                exact ⟨⟨by rw [hs', HSN.out.2, i1], fun q _ _ => trivial⟩, i3, i4⟩⟩
            have hsp : 0 ≤ 65536 * cj := by omega
            clear hq hinv harr hop HJ hK hkp X
            by_cases h8 : j = 8
            · have hz : (((j : Int) - 8) == 0) = true := by simp; omega
              have HI : Aside (ChIn m down A0 (some ⟨b, ob, none⟩) c0 c1 p mb B 0 0 1 w k x c (j + 1) s q wr ∧ ArrB B wr (some ⟨b1, o1, none⟩) (ints c)) := ⟨⟨NEXT.out s q (by rw [if_pos h8]; omega) (by rw [if_pos h8]; omega), HAR.out⟩⟩
              have H8 := Lib.hid h8
              clear h8 NEXT
              go_wp2
              go_roundw
              case rel => exact ⟨j + 1, s, q, by omega, rfl, rfl, by go_num, HI⟩
              case measure => simp [intOf]; omega
            · have hz : (((j : Int) - 8) == 0) = false := by simp; omega
              by_cases hp : 8 < j
              · have hpA : 0 < (j : Int) - 8 := by omega
                have hpB : (8 : Int) < j := by omega
                have hpC : ¬ (j : Int) - 8 < 0 := by omega
                have hpD : ¬ (j : Int) < 8 := by omega
                have HI : Aside (ChIn m down A0 (some ⟨b, ob, none⟩) c0 c1 p mb B 0 0 1 w k x c (j + 1) s (q + cj) wr ∧ ArrB B wr (some ⟨b1, o1, none⟩) (ints c)) := ⟨⟨NEXT.out _ _ (by rw [if_neg h8]) (by rw [if_neg h8]; simp [winV, hpA, hpB, hpC, hpD]), HAR.out⟩⟩
                clear NEXT
                go_wp2
                go_roundw
                case rel => exact ⟨j + 1, s, q + cj, by omega, by first | rfl | (simp; done) | (simp; omega), rfl, by go_num, HI⟩
                case measure => simp [intOf]; omega
              · have hpA : ¬ 0 < (j : Int) - 8 := by omega
                have hpB : ¬ (8 : Int) < j := by omega
                have hpC : (j : Int) - 8 < 0 := by omega
                have hpD : (j : Int) < 8 := by omega
                have HI : Aside (ChIn m down A0 (some ⟨b, ob, none⟩) c0 c1 p mb B 0 0 1 w k x c (j + 1) (s + 65536 * cj) (q + cj) wr ∧ ArrB B wr (some ⟨b1, o1, none⟩) (ints c)) := ⟨⟨NEXT.out _ _ (by rw [if_neg h8]) (by rw [if_neg h8]; simp [winV, hpA, hpB, hpC, hpD] <;> omega), HAR.out⟩⟩
                clear NEXT
                go_wp2
                go_roundw
                case rel => exact ⟨j + 1, s + 65536 * cj, q + cj, by omega, by first | rfl | (simp; done) | (simp; omega), rfl, by go_num, HI⟩
                case measure => simp [intOf]; omega
          · obtain rfl : j = 17 := by omega
            have h17l : ((countsH 0 c).take 17) = countsH 0 c := List.take_of_length_le (by have := HSET.out.1; omega)
            rw [h17l] at hq hinv
            have hrl17 : (rowV (stepV down m 0 0 1)).take 17 = rowV (stepV down m 0 0 1) := List.take_of_length_le (by have := HRL.out; omega)
            rw [hrl17] at hinv
            clear h17l hrl17
            have HQ := Lib.hid hq
            have HINV := Lib.hid hinv
            obtain ⟨⟨p0, p1, p2⟩, p3, p4, p5⟩ := hK.blk.six
            have pf := hK.blk.frozen 4
            have pl := hK.blk.lt
            have HKK := Aside.mk (And.intro hK (And.intro hkp X))
            clear hq hinv HJ hK hkp X
            by_cases hq0 : q = 0
            · have HE : Aside (PlayPost m down A0 (some ⟨b, ob, none⟩) c0 c1 p mb B 0 0 1 w (.returned (.int .i64 0)) (wr.setCell ⟨p, 4, none⟩ (.bool true))) := ⟨⟨0, true, rfl, by omega, (fun e => by cases e), HKK.out.2.1.sp 4 _, HKK.out.1.odd⟩⟩
              have HQ0 := Lib.hid hq0
              subst hq0
              go_wp2
              go_ret
              exact HE.out
            · have hqp : 0 < q := by omega
              have hq1 : 1 ≤ q := by omega
              have MORE : Aside (∀ x', x' = (if k = 0 then rdiv down s q else if (1 : Int) = 0 then max x (rdiv down s q) else min x (rdiv down s q)) → ChOut m down A0 (some ⟨b, ob, none⟩) c0 c1 p mb B 0 0 1 w (k + 1) x' wr) := ⟨fun x' hx' => ChOut.more (m := m) (h := 1) hlt HCK.out HKK.out.2.2 HKK.out.1 HKK.out.2.1 hxb HQ.out hsb hqp (fun e => by have h := HINV.out e; exact ⟨⟨h.1.1, fun q q0 q1 => h.1.2 q q0 (by omega)⟩, h.2⟩) hop hx'⟩
              have rdv := Int.ediv_nonneg hsb.1 (show 0 ≤ q by omega)
              have rdu : s / q ≤ 65536 := Int.ediv_le_of_le_mul hqp hsb.2
              clear HKK HINV HQ
              cases down
              · have HR := Lib.hid (rdiv_up s q hsb.1 hqp)
                by_cases hrem : 0 < s % q
                · by_cases hk0 : 0 < k
                  · by_cases hcmp : s / q + 1 < x
                    all_goals
                      go_wp2
                      go_roundw
                      case rel => exact ⟨k + 1, _, by omega, by go_num, rfl, (by simp <;> omega), ⟨MORE.out _ (by rw [if_neg (by omega), if_neg (by omega), HR.out, if_pos hrem]; omega)⟩⟩
                      case measure => simp [intOf]; omega
                  · go_wp2
                    go_roundw
                    case rel => exact ⟨k + 1, _, by omega, by go_num, rfl, (by simp <;> omega), ⟨MORE.out _ (by rw [if_pos (by omega), HR.out, if_pos hrem])⟩⟩
                    case measure => simp [intOf]; omega
                · by_cases hk0 : 0 < k
                  · by_cases hcmp : s / q < x
                    all_goals
                      go_wp2
                      go_roundw
                      case rel => exact ⟨k + 1, _, by omega, by go_num, rfl, (by simp <;> omega), ⟨MORE.out _ (by rw [if_neg (by omega), if_neg (by omega), HR.out, if_neg hrem]; omega)⟩⟩
                      case measure => simp [intOf]; omega
                  · go_wp2
                    go_roundw
                    case rel => exact ⟨k + 1, _, by omega, by go_num, rfl, (by simp <;> omega), ⟨MORE.out _ (by rw [if_pos (by omega), HR.out, if_neg hrem])⟩⟩
                    case measure => simp [intOf]; omega
              · have HR := Lib.hid (show rdiv true s q = s / q from rfl)
                by_cases hk0 : 0 < k
                · by_cases hcmp : s / q < x
                  all_goals
                    go_wp2
                    go_roundw
                    case rel => exact ⟨k + 1, _, by omega, by go_num, rfl, (by simp <;> omega), ⟨MORE.out _ (by rw [if_neg (by omega), if_neg (by omega), HR.out]; omega)⟩⟩
                    case measure => simp [intOf]; omega
                · go_wp2
                  go_roundw
                  case rel => exact ⟨k + 1, _, by omega, by go_num, rfl, (by simp <;> omega), ⟨MORE.out _ (by rw [if_pos (by omega), HR.out])⟩⟩
                  case measure => simp [intOf]; omega
      · obtain rfl : k = m.b.length := by omega
        have hbd : Below wr.heap.size wr wr.drew := Below.dr (Below.refl _ _)
        have hxo : o = false → x = chanceP down m 0 0 1 ∧ playedOk m 0 0 1 := fun e => by
          obtain ⟨i1, i2⟩ := hx e
          obtain ⟨j1, j2⟩ := i1 (by omega)
          refine ⟨?_, playedOk_of (fun c hc => ?_) j2⟩
          · rw [j1, HP.out, List.take_of_length_le (by rw [List.length_map]; exact Nat.le_refl _)]; rfl
          · obtain ⟨i, hi, rfl⟩ := List.mem_iff_getElem.1 hc
            exact i2 i hi hi
        have hxo' : o = false → x = chanceP down m (0 : Int).toNat 0 1 ∧ playedOk m (0 : Int).toNat 0 1 := fun e => hxo e
        have K2 := hK.be hbd
        obtain ⟨v7, hrun, hmemo, hgr⟩ := K2.memo.store states (stays_S _) Try.underlying48 ((0 : Int), (0 : Int), (1 : Int)) (.int .i64 x) ⟨x, rfl, hxb, hxo'⟩
        simp only [encS] at hrun
        have HE : Aside (PlayPost m down A0 A1 c0 c1 p mb B 0 0 1 w (.returned (.int .i64 x)) v7) := ⟨⟨x, o, rfl, hxb, hxo, (hkp.be hbd).gr hgr, K2.stored hgr hmemo⟩⟩
        obtain ⟨s0, s1, s2⟩ := X.three
        obtain ⟨_, _, _, p5⟩ := hK.blk.six
        have hxl := X.lt
        have hpl := hK.blk.lt
        clear hmemo hgr K2 hbd hxo hxo' hx HX hkp hK X
        go_wp2_with fail
        go_region
        go_wp2
        go_ret
        exact HE.out
  · obtain ⟨x, rfl, hx, hq⟩ := hyes rfl
    have HX := Aside.mk hx
    have hq' : false = false → x = chanceP down m 0 0 1 ∧ playedOk m 0 0 1 := fun e => hq e
    clear hq
    have HQ := Lib.hid hq'
    have HK1 := Aside.mk hk1
    clear hno hq' hx hk1
    go_quiet (fail)
    go_wp2
    go_ret
    exact ⟨x, false, rfl, HX.out, fun _ => HQ.out (by first | trivial | rfl), HKP.out.be (Below.drn (Below.refl _ _) _), HK1.out.be (Below.drn (Below.refl _ _) _)⟩
end Go.Proofs.Ytjbgdpbeabakiaa
