/- Chapter 11: contracts of AppendSeq and Collect over an iterator that writes one map. -/
import Derived.Test.YtjbgdpbeabakiaaK8
import Derived.RangeFuncBox
import Derived.Maps.OwnIn
namespace Go.Proofs.Ytjbgdpbeabakiaa
open Go.RowKit Go.Shelf
set_option linter.unusedVariables false
set_option linter.unusedSimpArgs false
attribute [local go_sem] Oper.semAt_some
theorem Try.infoH : (Try.prog.info? 43).map (fun i => (i.zero, i.size, i.bytes)) = some (some (.agg #[.int .i64 0, .int .i64 0]), 2, 16) := by kernel_rfl
theorem hopes_snoc (l : List (Int × Int)) (x : Int × Int) : hopes (l ++ [x]) = hopes l ++ [.int .i64 x.1, .int .i64 x.2] := by simp [hopes, cells, encH]
theorem Arr.of_own2 {w : World} {base e : Nat} {v : Value} {n : Nat} {xs : List Value} (h : w.ownsRow base e 2 v n xs) : ∃ A c, v = .slice A n c ∧ Arr w A xs := by
  have hl := h.1
  rcases h.2 with ⟨rfl, rfl⟩ | ⟨g, cap, cur, rfl, hg, hh, _, _, _, ht⟩
  · exact ⟨none, 0, rfl, .inl (List.length_eq_zero_iff.1 (by simpa using hl))⟩
  · refine ⟨_, cap, rfl, .inr ⟨g, 0, rfl, (Array.getElem?_eq_some_iff.1 hh).1, fun i hi => ?_⟩⟩
    rw [Nat.zero_add]
    exact h.cellAt i (by rw [← hl]; exact hi)
theorem Arr.own2 {w : World} {base e : Nat} {A : Option Addr} {c n : Nat} {xs : List Value} (h : w.ownsRow base e 2 (.slice A n c) n xs) : Arr w A xs := by
  obtain ⟨A', c', hv, ha⟩ := Arr.of_own2 h
  have e : A = A' := by injection hv
  rw [e]; exact ha
theorem Kept.bel {m : Nat} {a b c : World} (h : Kept m a b) (k : Below a.heap.size b c) : Kept m a c :=
  ⟨k.os.trans h.os, k.tape.trans h.tape, k.output.trans h.output, Nat.le_trans h.size k.size, fun i hi hne => (k.block i hi).trans (h.block i hi hne)⟩
theorem row_not {w : World} {base e size n : Nat} {v : Value} {xs : List Value} (h : w.ownsRow base e size v n xs) {r : Nat} {o : Obj} (ho : w.heap[r]? = some o) (hc : o.isCells = false) : v.ownBlock = none ∨ v.ownBlock ≠ some r := by
  rcases h.2 with ⟨rfl, _⟩ | ⟨g, cap, cur, rfl, _, hgb, _⟩
  · exact .inl rfl
  · refine .inr fun e' => ?_
    obtain rfl : g = r := by simpa [Value.ownBlock] using e'
    rw [hgb] at ho; cases ho; cases hc
set_option maxHeartbeats 2000000 in
set_option maxRecDepth 100000 in
theorem appendSeq_c (f : Nat) (lb : Array Value) (mb : Nat) (Q : World → Prop) (xs : List (Int × Int)) (w : World) (eg : ∀ args w, (callFunc f args).run Try.prog w = .ok (.enter f args) w) (hmb : mb < w.heap.size) (hlen : xs.length ≤ 60)
    (hseq : SeqM Try.prog f lb hopeVal mb Q xs w) (hQ : ∀ A B, Q A → Below w.heap.size A B → Q B) :
    Calls Try.prog 57 #[.slice none 0 0, .func (.func f) #[] lb] w fun e w' => ∃ A c, e = .returned (.slice A xs.length c) ∧ Arr w' A (hopes xs) ∧ Kept mb w w' ∧ Q w' := by
  obtain ⟨i0, hi, hz0, hz1, hz2⟩ := info_parts Try.infoH
  refine (callsIn_wide (n := 0)).1 ?_
  refine callsIn_of_wp_marks Try.func57 rfl trivial ?_ rfl
  simp only [Try.ntmps57, List.size_toArray, List.length_cons, List.length_nil, Nat.reduceAdd, Nat.reduceSub, Array.replicate_succ, Array.replicate_zero, List.push_toArray, List.append_toArray, List.nil_append, List.cons_append]
  gi_wp2
  have X0 : Blk (w.alloc (.cells #[.slice none 0 0] 56)) w.heap.size #[.slice none 0 0] 56 := Blk.fresh _ _ _
  have HB0 : Below w.heap.size w (w.alloc (.cells #[.slice none 0 0] 56)) := (by repeat (with_reducible first | exact Below.refl _ _ | assumption | refine Below.al ?_ _ | refine Below.dr ?_ | refine Below.drn ?_ _ | refine Below.sc ?_ (by simp <;> omega) _ | refine Below.th ?_ (by assumption)))
  have hsz0 : (w.alloc (.cells #[.slice none 0 0] 56)).heap.size = w.heap.size + 1 := by simp
  refine wpIn_collect (w0 := w) (gf := f) (lb := lb) rfl eg (enc := hopeVal) (mb := mb) HB0 hmb (xs := xs) (R := Q) hseq hQ 7 rfl
    (fun pre W => ∃ v, Blk W w.heap.size #[v] 56 ∧ W.ownsRow w.heap.size 43 2 v pre.length (hopes pre) ∧ Kept mb w W) ?hI ⟨_, X0, ⟨rfl, .inl ⟨rfl, rfl⟩⟩, (Kept.refl _ _).al _⟩
    (fun x a' W => ∃ B, w.heap.size < B ∧ Blk W B #[.int .i64 x.1, .int .i64 x.2] 43 ∧ a' = { tmps := #[.slice none 0 0, .func (.func f) #[] lb, .pointer (some ⟨w.heap.size, 0, none⟩), undef, .slice none 0 0, .pointer (some ⟨B, 0, none⟩), .func (.func f) #[] lb, .agg #[.int .i64 x.1, .int .i64 x.2], undef, undef, undef, undef, undef], defers := [] }) ?hAx ?hassign ?hbody ?hdone
  case hI =>
    rintro s A B row ⟨v, hv, hr, hk⟩ hg hrow
    rw [hsz0] at hrow
    refine ⟨v, hv.grown hg ?_, hr.kept hg ?_, ?_⟩
    · rintro rfl
      rcases hrow _ rfl with h | ⟨_, o, ho, hc⟩
      · omega
      · rw [show A.heap[w.heap.size]? = _ from hv] at ho; cases ho; cases hc
    · cases hrw : row with
      | none => cases v.ownBlock <;> simp
      | some r =>
        rcases hrow _ hrw with rfl | ⟨_, o, ho, hc⟩
        · cases hvb : v.ownBlock with
          | none => exact .inl rfl
          | some b => refine .inr fun e => ?_; have := (hr.lt b hvb).1; cases e; omega
        · exact row_not hr ho hc
    · refine ⟨hg.os.trans hk.os, hg.tape.trans hk.tape, hg.output.trans hk.output, Nat.le_trans hk.size hg.size, fun i hi hne => (hg.block i (Nat.lt_of_lt_of_le hi hk.size) (fun e => ?_)).trans (hk.block i hi hne)⟩
      rcases hrow i e.symm with h | ⟨h, _⟩
      · exact hne (by rw [h])
      · omega
  case hAx =>
    rintro x a' A B r o ⟨C, hC, bX, ha⟩ hr ho hc hg
    refine ⟨C, hC, bX.grown hg ?_, ha⟩
    intro e
    cases e
    rw [show A.heap[r]? = _ from bX] at ho; cases ho; cases hc
  case hassign =>
    rintro l pre x W K ⟨v, hv, hr, hk⟩ hsz hK
    rw [hsz0] at hsz
    simp only [hopeVal, List.setIfInBounds_toArray, List.set_cons_succ, List.set_cons_zero]
    gi_wp2
    exact hK _ _ ((KeepsOthers.alloc _ _).from _) ((Below.refl _ W).alloc (by omega) _) ⟨v, hv.al _, hr.alloc _, hk.al _⟩ ⟨W.heap.size, by omega, Blk.fresh _ _ _, rfl⟩
  case hbody =>
    rintro l pre x a' W hsz ⟨v, hv, hrow, hk⟩ ⟨B, hB, bX, rfl⟩ hlt
    rw [hsz0] at hsz
    have hc : W.cell? ⟨w.heap.size, 0, none⟩ = some v := by rw [hv.cell]; rfl
    have hx0 : W.cell? ⟨B, 0, none⟩ = some (.int .i64 x.1) := by rw [bX.cell]; rfl
    have hx1 : W.cell? ⟨B, 1, none⟩ = some (.int .i64 x.2) := by rw [bX.cell]; rfl
    gi_wp2_with (gi_at_builtin; refine wpListIn_append_own _ rfl _ _ 56 rfl w.heap.size 43 i0 (.agg #[.int .i64 0, .int .i64 0]) 2 16 Try.underlying56 hi hz0 hz1 hz2 rfl (by decide) _ _ _ rfl (hrow.alloc _) ⟨W.heap.size, 0, none⟩ 1 1 [.int .i64 x.1, .int .i64 x.2] rfl rfl (World.news_of_block (cs := #[.int .i64 x.1, .int .i64 x.2]) (fr := (0, 0)) (World.alloc_heap_new _ _)) (by simp [Value.oneCell']) (by unfold maxLen; omega) (by omega) (by simp; omega) ?_; intro v' w1 hown' hgrow _; obtain ⟨g', cap', rfl⟩ := ownsRow_succ hown'; obtain ⟨hv1, hv2, hr2, hk2, hb2⟩ := Boxed.appended (t := 56) hv (by decide) hrow (by omega) (Nat.le_refl _) hown' hgrow; have hc1 := hv1.cell; have hf1 := hv1.frozen)
    exact ⟨hk2.from _, _, hv2, by rw [hopes_snoc]; simpa using hr2, hk.bel hb2⟩
  case hdone =>
    rintro W ⟨v, hv, hrow, hk⟩ hq hD
    have hc : W.cell? ⟨w.heap.size, 0, none⟩ = some v := by rw [hv.cell]; rfl
    obtain ⟨A, c, rfl, ha⟩ := Arr.of_own2 hrow
    have hsW : w.heap.size ≤ W.heap.size := hk.size
    have hbD : Below w.heap.size W (W.putObj (w.alloc (.cells #[.slice none 0 0] 56)).heap.size (.deferred none)) := below_put _ (by omega) hD hsW
    gi_wp2
    refine ⟨by simp, .inl ⟨_, _, rfl, run_takeDeferred hD, ?_⟩⟩
    exact ⟨_, results_tmp rfl _ _ _, A, c, rfl, Arr.own2 (ownsRow_putObj hrow _ hD rfl), hk.bel hbD, hQ _ _ hq hbD⟩
theorem collect_c (f : Nat) (lb : Array Value) (mb : Nat) (Q : World → Prop) (xs : List (Int × Int)) (w : World) (eg : ∀ args w, (callFunc f args).run Try.prog w = .ok (.enter f args) w) (hmb : mb < w.heap.size) (hlen : xs.length ≤ 60)
    (hseq : SeqM Try.prog f lb hopeVal mb Q xs w) (hQ : ∀ A B, Q A → Below w.heap.size A B → Q B) :
    Calls Try.prog 45 #[.func (.func f) #[] lb] w fun e w' => ∃ A c, e = .returned (.slice A xs.length c) ∧ Arr w' A (hopes xs) ∧ Kept mb w w' ∧ Q w' := by
  have K := Aside.mk (appendSeq_c f lb mb Q xs w eg hmb hlen hseq hQ)
  clear hseq hQ eg
  go_enter Try.func45, Try.ntmps45
  go_wp2_with fail
  refine K.out.mono ?_
  rintro e w' ⟨A, c, rfl, ha, hk, hq⟩
  go_wp2
  go_ret
  exact ⟨A, c, rfl, ha, hk, hq⟩
end Go.Proofs.Ytjbgdpbeabakiaa
