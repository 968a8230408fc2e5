/- Chapter 11: the iterator over the hopes behind an end. -/
import Derived.Test.YtjbgdpbeabakiaaK6
namespace Go.Proofs.Ytjbgdpbeabakiaa
open Go.RowKit Go.Shelf
set_option linter.unusedVariables false
set_option linter.unusedSimpArgs false
attribute [local go_sem] Oper.semAt_some
theorem Rk.lts {m : Riv} {R : Rp} {w : World} (h : Rk m R w) : R.rb < w.heap.size ∧ R.rv < w.heap.size ∧ R.kv < w.heap.size ∧ R.mb < w.heap.size := ⟨h.r.lt, h.v.lt, h.k.lt, h.memo.lt⟩
theorem Rk.bel {m : Riv} {R : Rp} {w w' : World} {B : Nat} (h : Rk m R w) (hb : Below B w w') (l : R.rb < B ∧ R.rv < B ∧ R.kv < B ∧ R.mb < B) : Rk m R w' :=
  ⟨h.r.below hb l.1, h.v.below hb l.2.1, h.k.below hb l.2.2.1, h.ra.below (hb.mono (Nat.le_of_lt l.2.2.2)), h.rb'.below (hb.mono (Nat.le_of_lt l.2.2.2)), h.memo.below hb l.2.2.2, h.n1, h.n2, h.n3⟩
theorem stepH_zero (m : Riv) (l h p : Int) : stepH m 0 l h p = endH h p := rfl
theorem stepH_succ (m : Riv) (n : Nat) (l h p : Int) : stepH m (n + 1) l h p = hopeH m n (nextL l h p) (nextH h p) := rfl
theorem rowH_snoc (f : Int → Int × Int) {k : Nat} (hk : k < 17) : (rowH f).take (k + 1) = (rowH f).take k ++ [f ((k : Int) - 8)] := by
  rw [List.take_succ_eq_append_getElem (by rw [rowH_len]; exact hk), rowH_get]
set_option maxHeartbeats 4000000 in
set_option maxRecDepth 100000 in
theorem nexts1_m0 (m : Riv) (R : Rp) (l h : Int) (sB rB : Nat) (w : World) (hh : h = 0 ∨ h = 1) (hk : Rk m R w) (X1 : Blk w sB #[.int .i64 0, .int .i64 l, .int .i64 h] 27) (X2 : Blk w rB #[.pointer (some ⟨R.rb, 0, none⟩)] 73) (n1 : sB ≠ R.mb) (n2 : rB ≠ R.mb) :
    SeqM Try.prog 58 #[.pointer (some ⟨sB, 0, none⟩), .pointer (some ⟨rB, 0, none⟩)] hopeVal R.mb (Rk m R) (rowH (stepH m 0 l h)) w := by
  intro lp J W hW hJ hY h0
  have SB := X1.lt
  have hkW := hk.be hW
  have X1 := X1.be hW
  have hsz := hW.size
  have HY := Aside.mk hY
  have HJ := Aside.mk hJ
  have HS := Aside.mk (fun b w => sure_c b w)
  have LT := Aside.mk hk.lts
  clear hY hJ hk hW
  refine callsIn_of_wp Try.func58 rfl trivial ?_ rfl
  simp only [Try.ntmps58, List.size_toArray, List.length_cons, List.length_nil, Nat.reduceAdd, Nat.reduceSub, Array.replicate_succ, Array.replicate_zero, List.push_toArray, List.append_toArray, List.nil_append, List.cons_append]
  gi_wp2
  gi_loopw [4, 5] (fun i x wr => ∃ k : Nat, k ≤ 17 ∧ i = .int .i64 ((k : Int) - 8) ∧ Aside (J ((rowH (stepH m 0 l h)).take k) wr ∧ Rk m R wr ∧ Blk wr sB #[.int .i64 0, .int .i64 l, .int .i64 h] 27 ∧ w.heap.size ≤ wr.heap.size)) (fun i _ _ => (9 - intOf i).toNat)
  case atStart => exact ⟨0, by omega, rfl, ⟨by simpa using h0, hkW, X1, hsz⟩⟩
  case round =>
    obtain ⟨k, hk17, rfl, HX⟩ := hrel
    have s0 := HX.out.2.2.1.cell 0
    have s2 := HX.out.2.2.1.cell 2
    have sl := HX.out.2.2.1.lt
    simp at s0 s2
    by_cases hlt : k < 17
    · have hp3 : 0 < (k : Int) - 8 ∨ ((k : Int) - 8 < 0 ∧ ¬ 0 < (k : Int) - 8) ∨ (¬ (k : Int) - 8 < 0 ∧ ¬ 0 < (k : Int) - 8) := by omega
      have E := Lib.hid (rowH_snoc (stepH m 0 l h) hlt)
      have HL := Lib.hid (show ((rowH (stepH m 0 l h)).take k).length < (rowH (stepH m 0 l h)).length by rw [List.length_take, rowH_len]; omega)
      have HE : Hid (sureH ((decide (0 < (k : Int) - 8) && decide (h = 0)) || (decide ((k : Int) - 8 < 0) && decide (h = 1))) = stepH m 0 l h ((k : Int) - 8)) := (show _ = _ from rfl)
      generalize stepH m 0 l h ((k : Int) - 8) = y at *
      generalize rowH (stepH m 0 l h) = row at *
      rcases hh with rfl | rfl <;> rcases hp3 with hp | ⟨hp, hp'⟩ | ⟨hp, hp'⟩
      all_goals
        gi_wp2
        refine ⟨trivial, rfl, ?_⟩
        refine (callsIn_wide.2 (HS.out _ _)).mono ?_
        rintro e w' ⟨rfl, zb⟩
        generalize hxx : sureH _ = x
        have hx : y = x := by rw [← HE.out, ← hxx]; congr 1; simp <;> omega
        subst hx
        have X3 := HX.out.2.2.1.be zb
        have t0 := (X3.al (.cells #[.int .i64 y.1, .int .i64 y.2] 43)).cell 0
        have tl := X3.lt
        have hJ3 := HJ.out _ wr (w'.alloc (.cells #[.int .i64 y.1, .int .i64 y.2] 43)) HX.out.1 ((Kept.of zb).al _)
        have hk3 := (HX.out.2.1.be zb).be (Below.al (Below.refl _ _) (.cells #[.int .i64 y.1, .int .i64 y.2] 43))
        have X4 := X3.al (.cells #[.int .i64 y.1, .int .i64 y.2] 43)
        have hs3 : w.heap.size ≤ (w'.alloc (.cells #[.int .i64 y.1, .int .i64 y.2] 43)).heap.size := by have := zb.size; have := HX.out.2.2.2; simp; omega
        obtain ⟨fn, tmps, assign, body, hy, hR⟩ := HY.out _ y (w'.alloc (.cells #[.int .i64 y.1, .int .i64 y.2] 43)) hJ3 HL.out
        have HH := Aside.mk (And.intro hJ3 (And.intro hk3 (And.intro X4 hs3)))
        clear hxx hJ3 hk3 X4 hs3 X3
        simp only [hopeVal] at hy
        simp at t0
        gi_wp2
        refine ⟨rfl, hR.mono ?_⟩
        rintro e W2 ⟨rfl, hJ2, hb2⟩
        have hk2 := HH.out.2.1.bel hb2 LT.out
        have X5 := HH.out.2.2.1.below hb2 SB
        have hs5 := hb2.size
        have hs6 := HH.out.2.2.2
        clear hR hy t0
        gi_wp2
        go_roundw
        case rel => exact ⟨k + 1, by omega, by go_num, ⟨by rw [E.out]; exact hJ2, hk2, X5, Nat.le_trans hs6 hs5⟩⟩
        case measure => simp [intOf]; omega
    · obtain rfl : k = 17 := by omega
      have hJ17 := HX.out.1
      rw [List.take_of_length_le (by rw [rowH_len]; omega)] at hJ17
      gi_wp2
      go_end0
      exact ⟨⟨_, rfl⟩, hJ17, HX.out.2.1⟩
end Go.Proofs.Ytjbgdpbeabakiaa
