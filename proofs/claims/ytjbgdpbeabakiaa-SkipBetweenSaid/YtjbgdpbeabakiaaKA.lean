/- Chapter 11: contract of the reckoning's styles. -/
import Derived.Test.YtjbgdpbeabakiaaK9
namespace Go.Proofs.Ytjbgdpbeabakiaa
open Go.RowKit Go.Shelf
set_option linter.unusedVariables false
set_option linter.unusedSimpArgs false
theorem take_snoc' {α : Type} (l : List α) (k : Nat) (hk : k < l.length) : l.take (k + 1) = l.take k ++ [l[k]] := List.take_succ_eq_append_getElem hk
theorem mem_at {α : Type} {P : α → Prop} {l : List α} (h : ∀ x ∈ l, P x) {k : Nat} (hk : k < l.length) : P l[k] := h _ (List.getElem_mem hk)
def StylesPost (m : Riv) (R : Rp) (n : Nat) (l h : Int) (w : World) (e : Ending) (w' : World) : Prop :=
  ∃ A c, e = .returned (.slice A (m.st h).length c) ∧ Arr w' A (hopes (stylesH m n h (rowH (stepH m n l h)))) ∧ Kept R.mb w w' ∧ Rk m R w' ∧ (m.st h).length ≤ c ∧ c ≤ 9223372036854775807
theorem own_cap {w : World} {base e size n c : Nat} {A : Option Addr} {xs : List Value} (h : w.ownsRow base e size (.slice A n c) n xs) : n ≤ c ∧ c ≤ 9223372036854775807 := by
  rcases h.2 with ⟨hv, h0⟩ | ⟨g, cap, cur, hv, _, _, h1, h2, _⟩
  · simp at hv; omega
  · unfold maxLen at h2; simp at hv; omega
theorem own_kept' {w w' : World} {base e size n : Nat} {v : Value} {xs : List Value} (h : w.ownsRow base e size v n xs) (hb : Below w.heap.size w w') : w'.ownsRow base e size v n xs :=
  h.kept (row := none) ⟨hb.os, hb.tape, hb.output, hb.size, fun k hk _ => hb.block k hk⟩ (by cases v.ownBlock <;> simp)
theorem Below.al' {a w : World} (h : Below a.heap.size a w) (o : Obj) : Below a.heap.size a (w.alloc o) := h.alloc h.size o
theorem clone17 (A : Option Addr) (c : Nat) (l : List Int) (w : World) (hr : Arr w A (ints l)) (h17 : l.length = 17) :
    Calls Try.prog 47 #[.slice A 17 c] w fun e w' => ∃ g cap, e = .returned (.slice (some ⟨g, 0, none⟩) 17 cap) ∧ w'.ownsRow w.heap.size 3 1 (.slice (some ⟨g, 0, none⟩) 17 cap) 17 (ints l) ∧ Below w.heap.size w w' ∧ w.heap.size ≤ g ∧ g < w'.heap.size := by
  have := clone_c A c l w hr (by omega) (by omega)
  rw [h17] at this; exact this
theorem rmean17 (m : Riv) (R : Rp) (c : List Int) (B : Option Addr) (c1 : Nat) (l : List (Int × Int)) (A : Option Addr) (c0 : Nat) (w : World) (hk : Rk m R w) (d1 : 1 ≤ m.d) (d2 : m.d ≤ 1000) (hc : countedB c = true) (h17 : c.length = 17) (ha : Arr w A (ints c)) (hl : Arr w B (hopes l)) (hl17 : l.length = 17) (hin : ∀ x ∈ l, InH x) :
    Calls Try.prog 48 #[.pointer (some ⟨R.rb, 0, none⟩), .slice A 17 c0, .slice B 17 c1] w fun e w' => e = .returned (.agg #[.int .i64 (meanH c m.d l).1, .int .i64 (meanH c m.d l).2]) ∧ Below w.heap.size w w' := by
  have ok := meanOk_in (l := l) hc d1 d2 (by omega) hin
  have := rmean_c R.rb A B c0 c1 c l m.d w hk.r.lt (by rw [hk.r.cell]; rfl) ha hl (by omega) (by omega) ok.1 ok.2
  rw [h17, hl17] at this; exact this
set_option maxHeartbeats 4000000 in
set_option maxRecDepth 100000 in
theorem styles_c0 (m : Riv) (hm : rivOk m = true) (R : Rp) (n : Nat) (l : Int) (w : World) (n12 : n ≤ 12) (l0 : -96 ≤ l) (l1 : l ≤ 96) (IH : ∀ k, n = k + 1 → HopeOk m R k) (hk : Rk m R w) :
    Calls Try.prog 36 #[.pointer (some ⟨R.rb, 0, none⟩), .agg #[.int .i64 n, .int .i64 l, .int .i64 0]] w (StylesPost m R n l 0 w) := by
  obtain ⟨i0, hi, hz0, hz1, hz2⟩ := info_parts Try.infoH
  obtain ⟨hn8, hst, d1, d2⟩ := rivOk_st hm 0
  rw [show m.st 0 = m.a from rfl] at hn8 hst
  obtain ⟨q1, q8⟩ := hn8
  have HIN := Aside.mk (rowH_in (fun p => stepH_in hm n l 0 p))
  have HST := Aside.mk (fun k (hk : k < m.a.length) => mem_at hst hk)
  have KC := Aside.mk (fun (w : World) (sB rB : Nat) hk X1 X2 n1 n2 => nexts1_m m R n l 0 sB rB w (by omega) l0 l1 n12 IH hk X1 X2 n1 n2)
  have RL := rowH_len (stepH m n l 0)
  clear IH hst hm
  generalize hrow : rowH (stepH m n l 0) = row at *
  have HRL := Lib.hid RL
  have HROW := Lib.hid hrow
  clear RL hrow
  go_enter Try.func36, Try.ntmps36
  go_wp2_with fail
  refine (nexts_c _ _ _ _ _).mono ?_
  rintro e w' ⟨rfl, rfl⟩
  go_wp2_with fail
  have X0 : Blk (((w.alloc (.cells #[.int .i64 n, .int .i64 l, .int .i64 0] 27)).alloc (.cells #[.pointer (some ⟨R.rb, 0, none⟩)] 73)).alloc (.cells #[.int .i64 n, .int .i64 l, .int .i64 0] 27)) w.heap.size #[.int .i64 n, .int .i64 l, .int .i64 0] 27 := ((Blk.fresh _ _ _).al _).al _
  have X1 : Blk (((w.alloc (.cells #[.int .i64 n, .int .i64 l, .int .i64 0] 27)).alloc (.cells #[.pointer (some ⟨R.rb, 0, none⟩)] 73)).alloc (.cells #[.int .i64 n, .int .i64 l, .int .i64 0] 27)) (w.heap.size + 1) #[.pointer (some ⟨R.rb, 0, none⟩)] 73 := (Blk.fresh' (by simp)).al _
  have X2 : Blk (((w.alloc (.cells #[.int .i64 n, .int .i64 l, .int .i64 0] 27)).alloc (.cells #[.pointer (some ⟨R.rb, 0, none⟩)] 73)).alloc (.cells #[.int .i64 n, .int .i64 l, .int .i64 0] 27)) (w.heap.size + 1 + 1) #[.int .i64 n, .int .i64 l, .int .i64 0] 27 := Blk.fresh' (by simp)
  have HB : Below w.heap.size w (((w.alloc (.cells #[.int .i64 n, .int .i64 l, .int .i64 0] 27)).alloc (.cells #[.pointer (some ⟨R.rb, 0, none⟩)] 73)).alloc (.cells #[.int .i64 n, .int .i64 l, .int .i64 0] 27)) := (by repeat (with_reducible first | exact Below.refl _ _ | assumption | refine Below.al ?_ _ | refine Below.dr ?_ | refine Below.drn ?_ _ | refine Below.sc ?_ (by simp <;> omega) _ | refine Below.th ?_ (by assumption)))
  have hk1 := hk.be HB
  have hmb := hk.memo.lt
  generalize ((w.alloc (.cells #[.int .i64 n, .int .i64 l, .int .i64 0] 27)).alloc (.cells #[.pointer (some ⟨R.rb, 0, none⟩)] 73)).alloc (.cells #[.int .i64 n, .int .i64 l, .int .i64 0] 27) = v at *
  have hws := HB.size
  have LT := Aside.mk hk1.lts
  refine (collect_c 58 #[.pointer (some ⟨w.heap.size + 1 + 1, 0, none⟩), .pointer (some ⟨w.heap.size + 1, 0, none⟩)] R.mb (Rk m R) row v (enters_of Try.func58 (by kernel_rfl) rfl) (by omega) (by have := HRL.out; omega) (KC.out _ _ _ hk1 X2 X1 (by omega) (by omega)) (fun A B hq hb => hq.bel hb LT.out)).mono ?_
  rintro e v1 ⟨AH, cH, rfl, hh, hkep, hk2⟩
  have X0 := X0.kept hkep (by omega)
  have KP : Kept R.mb w v1 := (Kept.of HB).th hkep
  have hrl := HRL.out
  rw [hrl]
  clear KC X1 X2 hk1 hkep LT HB
  have hn0 : v1.cell? ⟨w.heap.size, 0, none⟩ = some (.int .i64 n) := by rw [X0.cell]; rfl
  have hn1 : v1.cell? ⟨w.heap.size, 1, none⟩ = some (.int .i64 l) := by rw [X0.cell]; rfl
  have hn2 : v1.cell? ⟨w.heap.size, 2, none⟩ = some (.int .i64 0) := by rw [X0.cell]; rfl
  have hr1 : v1.cell? ⟨R.rb, 1, none⟩ = some (.slice R.A0 m.a.length R.c0) := by rw [hk2.r.cell]; rfl
  have hr2 : v1.cell? ⟨R.rb, 2, none⟩ = some (.slice R.A1 m.b.length R.c1) := by rw [hk2.r.cell]; rfl
  go_wp2_with fail
  go_quiet (fail)
  go_wp2_with fail
  have hbd : Below v1.heap.size v1 (v1.drewN nq) := Below.drn (Below.refl _ _) _
  have KP := KP.drn nq
  have X0 := X0.be hbd
  have hk2 := hk2.be hbd
  have hh := hh.below hbd
  generalize v1.drewN nq = v2 at *
  clear hn0 hn1 hn2 hr1 hr2 hbd hk hmb
  have HKP := Aside.mk KP
  have S17 := Lib.hid (stylesH_len m n 0 row)
  go_loopw [6, 8, 22] (fun v x i wr => ∃ k : Nat, k ≤ m.a.length ∧ i = .int .i64 k ∧ Below v2.heap.size v2 wr ∧ Aside (wr.ownsRow v2.heap.size 43 2 v k (hopes ((stylesH m n 0 row).take k)))) (fun _ _ i _ => m.a.length - (intOf i).toNat)
  case atStart => exact ⟨0, Nat.zero_le _, rfl, Below.refl _ _, ⟨rfl, .inl ⟨rfl, rfl⟩⟩⟩
  case round =>
    obtain ⟨k, hk, rfl, hB, HO⟩ := hrel
    have HK := Aside.mk (hk2.be hB)
    have hvs := hB.size
    by_cases hlt : k < m.a.length
    · obtain ⟨b, o, A', c', hA, hb, hcell, ha⟩ := HK.out.ra.at hlt
      obtain ⟨hcb, h17⟩ := HST.out k hlt
      have hmb := HK.out.memo.lt
      have ha := ha.arr (Nat.le_of_lt hmb)
      have hb' : b < wr.heap.size := by omega
      have HAQ := Lib.hid hA
      have hlS : k < (stylesH m n 0 row).length := by rw [stylesH_len]; exact hlt
      have E := Lib.hid (take_snoc' (stylesH m n 0 row) k hlS)
      have ES : (stylesH m n 0 row)[k] = meanH (countsH n m.a[k]) m.d row := by simp [stylesH, Riv.st]
      rw [ES] at E
      clear ES hlS
      generalize m.a[k] = c at *
      rw [h17] at hcell
      have H17 := Lib.hid h17
      have HCB := Lib.hid hcb
      have X := X0.below hB (by have := HKP.out.size; have := X0.lt; omega)
      have hn0 : wr.cell? ⟨w.heap.size, 0, none⟩ = some (.int .i64 n) := by rw [X.cell]; rfl
      have HL := Lib.hid h17
      have hw0 : w.heap.size < wr.heap.size := X.lt
      have hHH := hh.below hB
      clear h17 hcb
      by_cases hn : n = 0
      · have hz : ((n : Int) == 0) = true := by simp [hn]
        have hz' : (n == 0) = true := by simp [hn]
        have HN := Lib.hid hn
        clear hn
        go_wp2_with fail
        refine (clone17 A' c' c _ ha H17.out).mono ?_
        rintro e w1 ⟨g, cap, rfl, ho, zb, hg, hg2⟩
        have HS := ho.stored 8 (.int .i64 0)
        have hc8 : w1.cell? ⟨g, 8, none⟩ = some (.int .i64 (c[8]'(by have := H17.out; omega))) := by
          rw [ho.cellAt 8 (by omega)]; have := H17.out; simp [ints, this]
        have hf8 := ho.frozenAt 8
        have hBs : Below wr.heap.size wr (w1.setCell ⟨g, 8, none⟩ (.int .i64 0)) := zb.setCell hg _
        have HA : Aside (Arr (w1.setCell ⟨g, 8, none⟩ (.int .i64 0)) (some ⟨g, 0, none⟩) (ints (countsH n c))) := ⟨by
          have := Arr.own HS.1
          rw [ints_set] at this
          simpa [countsH, HN.out] using this⟩
        have HOW := Aside.mk (own_kept' HO.out hBs)
        have HK3 := Aside.mk (HK.out.be hBs)
        have hHH3 := hHH.below hBs
        have hB3 := hB.trans (hBs.mono hvs)
        clear HS ho zb
        go_wp2_with fail
        generalize w1.setCell ⟨g, 8, none⟩ (.int .i64 0) = v3 at *
        refine (rmean17 m R (countsH n c) AH cH row (some ⟨g, 0, none⟩) cap v3 HK3.out d1 d2 (countsH_ok n HCB.out).1 ((countsH_ok n HCB.out).2.trans H17.out) HA.out hHH3 hrl HIN.out).mono ?_
        rintro e v4 ⟨rfl, zb⟩
        have HOW := Aside.mk (own_kept' HOW.out zb)
        have hB4 := hB3.trans (zb.mono hB3.size)
        have hvs4 := hB4.size
        clear HK3 HA hHH3 hHH hBs hc8 hf8 hg hg2 hcell hA hb' hb
        go_wp2_with (at_builtin; refine wpList_append_own_at _ rfl _ _ 56 rfl v2.heap.size 43 i0 (.agg #[.int .i64 0, .int .i64 0]) 2 16 Try.underlying56 hi hz0 hz1 hz2 rfl (by decide) _ _ _ rfl (HOW.out.alloc _) ⟨v4.heap.size, 0, none⟩ 1 1 [.int .i64 (meanH (countsH n c) m.d row).1, .int .i64 (meanH (countsH n c) m.d row).2] rfl rfl (World.news_of_block (cs := #[.int .i64 (meanH (countsH n c) m.d row).1, .int .i64 (meanH (countsH n c) m.d row).2]) (fr := (0, 0)) (World.alloc_heap_new _ _)) (by simp [Value.oneCell']) (by unfold maxLen; omega) (by omega) (by simp; omega) ?_; intro v' w1 hown' hgrow hnil hloc; have HO' := Aside.mk hown'; have HG' := Aside.mk hgrow; clear hown' hgrow hnil hloc)
        go_roundw
        case rel =>
          (repeat apply Exists.intro)
          refine ⟨?_, ?_⟩
          rotate_left
          · rw [HAQ.out]
          exact ⟨k + 1, by omega, by go_num, Below.grown (Below.al' hB4 _) HG'.out (by simp; omega) (fun k hk => own_lo' HOW.out k hk), ⟨by rw [E.out, hopes_snoc]; simpa using HO'.out⟩⟩
        case measure => simp [intOf]; omega
      · have hz : ((n : Int) == 0) = false := by simp [hn]
        have hz' : (n == 0) = false := by simp [hn]
        have HA : Aside (Arr wr A' (ints (countsH n c))) := ⟨by simpa [countsH, hn] using ha⟩
        have HK3 := HK
        clear hn
        go_wp2_with fail
        refine (rmean17 m R (countsH n c) AH cH row A' c' wr HK3.out d1 d2 (countsH_ok n HCB.out).1 ((countsH_ok n HCB.out).2.trans H17.out) HA.out hHH hrl HIN.out).mono ?_
        rintro e v4 ⟨rfl, zb⟩
        have HOW := Aside.mk (own_kept' HO.out zb)
        have hB4 := hB.trans (zb.mono hvs)
        have hvs4 := hB4.size
        clear HK3 HA hHH hcell hA hb' hb
        go_wp2_with (at_builtin; refine wpList_append_own_at _ rfl _ _ 56 rfl v2.heap.size 43 i0 (.agg #[.int .i64 0, .int .i64 0]) 2 16 Try.underlying56 hi hz0 hz1 hz2 rfl (by decide) _ _ _ rfl (HOW.out.alloc _) ⟨v4.heap.size, 0, none⟩ 1 1 [.int .i64 (meanH (countsH n c) m.d row).1, .int .i64 (meanH (countsH n c) m.d row).2] rfl rfl (World.news_of_block (cs := #[.int .i64 (meanH (countsH n c) m.d row).1, .int .i64 (meanH (countsH n c) m.d row).2]) (fr := (0, 0)) (World.alloc_heap_new _ _)) (by simp [Value.oneCell']) (by unfold maxLen; omega) (by omega) (by simp; omega) ?_; intro v' w1 hown' hgrow hnil hloc; have HO' := Aside.mk hown'; have HG' := Aside.mk hgrow; clear hown' hgrow hnil hloc)
        go_roundw
        case rel => exact ⟨k + 1, by omega, by go_num, Below.grown (Below.al' hB4 _) HG'.out (by simp; omega) (fun k hk => own_lo' HOW.out k hk), ⟨by rw [E.out, hopes_snoc]; simpa using HO'.out⟩⟩
        case measure => simp [intOf]; omega
    · obtain rfl : k = m.a.length := by omega
      have HO1 := HO.out
      rw [List.take_of_length_le (by rw [stylesH_len]; exact Nat.le_refl _)] at HO1
      obtain ⟨AS, cS, rfl, hS⟩ := Arr.of_own2 HO1
      have HCAP := own_cap HO1
      have HS := Aside.mk hS
      clear hS HO HO1
      go_wp2
      go_ret
      exact ⟨AS, cS, rfl, by rw [HROW.out]; exact HS.out, HKP.out.th (Kept.of hB), HK.out, HCAP.1, HCAP.2⟩
set_option maxHeartbeats 4000000 in
set_option maxRecDepth 100000 in
theorem styles_c1 (m : Riv) (hm : rivOk m = true) (R : Rp) (n : Nat) (l : Int) (w : World) (n12 : n ≤ 12) (l0 : -96 ≤ l) (l1 : l ≤ 96) (IH : ∀ k, n = k + 1 → HopeOk m R k) (hk : Rk m R w) :
    Calls Try.prog 36 #[.pointer (some ⟨R.rb, 0, none⟩), .agg #[.int .i64 n, .int .i64 l, .int .i64 1]] w (StylesPost m R n l 1 w) := by
  obtain ⟨i0, hi, hz0, hz1, hz2⟩ := info_parts Try.infoH
  obtain ⟨hn8, hst, d1, d2⟩ := rivOk_st hm 1
  rw [show m.st 1 = m.b from rfl] at hn8 hst
  obtain ⟨q1, q8⟩ := hn8
  have HIN := Aside.mk (rowH_in (fun p => stepH_in hm n l 1 p))
  have HST := Aside.mk (fun k (hk : k < m.b.length) => mem_at hst hk)
  have KC := Aside.mk (fun (w : World) (sB rB : Nat) hk X1 X2 n1 n2 => nexts1_m m R n l 1 sB rB w (by omega) l0 l1 n12 IH hk X1 X2 n1 n2)
  have RL := rowH_len (stepH m n l 1)
  clear IH hst hm
  generalize hrow : rowH (stepH m n l 1) = row at *
  have HRL := Lib.hid RL
  have HROW := Lib.hid hrow
  clear RL hrow
  go_enter Try.func36, Try.ntmps36
  go_wp2_with fail
  refine (nexts_c _ _ _ _ _).mono ?_
  rintro e w' ⟨rfl, rfl⟩
  go_wp2_with fail
  have X0 : Blk (((w.alloc (.cells #[.int .i64 n, .int .i64 l, .int .i64 1] 27)).alloc (.cells #[.pointer (some ⟨R.rb, 0, none⟩)] 73)).alloc (.cells #[.int .i64 n, .int .i64 l, .int .i64 1] 27)) w.heap.size #[.int .i64 n, .int .i64 l, .int .i64 1] 27 := ((Blk.fresh _ _ _).al _).al _
  have X1 : Blk (((w.alloc (.cells #[.int .i64 n, .int .i64 l, .int .i64 1] 27)).alloc (.cells #[.pointer (some ⟨R.rb, 0, none⟩)] 73)).alloc (.cells #[.int .i64 n, .int .i64 l, .int .i64 1] 27)) (w.heap.size + 1) #[.pointer (some ⟨R.rb, 0, none⟩)] 73 := (Blk.fresh' (by simp)).al _
  have X2 : Blk (((w.alloc (.cells #[.int .i64 n, .int .i64 l, .int .i64 1] 27)).alloc (.cells #[.pointer (some ⟨R.rb, 0, none⟩)] 73)).alloc (.cells #[.int .i64 n, .int .i64 l, .int .i64 1] 27)) (w.heap.size + 1 + 1) #[.int .i64 n, .int .i64 l, .int .i64 1] 27 := Blk.fresh' (by simp)
  have HB : Below w.heap.size w (((w.alloc (.cells #[.int .i64 n, .int .i64 l, .int .i64 1] 27)).alloc (.cells #[.pointer (some ⟨R.rb, 0, none⟩)] 73)).alloc (.cells #[.int .i64 n, .int .i64 l, .int .i64 1] 27)) := (by repeat (with_reducible first | exact Below.refl _ _ | assumption | refine Below.al ?_ _ | refine Below.dr ?_ | refine Below.drn ?_ _ | refine Below.sc ?_ (by simp <;> omega) _ | refine Below.th ?_ (by assumption)))
  have hk1 := hk.be HB
  have hmb := hk.memo.lt
  generalize ((w.alloc (.cells #[.int .i64 n, .int .i64 l, .int .i64 1] 27)).alloc (.cells #[.pointer (some ⟨R.rb, 0, none⟩)] 73)).alloc (.cells #[.int .i64 n, .int .i64 l, .int .i64 1] 27) = v at *
  have hws := HB.size
  have LT := Aside.mk hk1.lts
  refine (collect_c 58 #[.pointer (some ⟨w.heap.size + 1 + 1, 0, none⟩), .pointer (some ⟨w.heap.size + 1, 0, none⟩)] R.mb (Rk m R) row v (enters_of Try.func58 (by kernel_rfl) rfl) (by omega) (by have := HRL.out; omega) (KC.out _ _ _ hk1 X2 X1 (by omega) (by omega)) (fun A B hq hb => hq.bel hb LT.out)).mono ?_
  rintro e v1 ⟨AH, cH, rfl, hh, hkep, hk2⟩
  have X0 := X0.kept hkep (by omega)
  have KP : Kept R.mb w v1 := (Kept.of HB).th hkep
  have hrl := HRL.out
  rw [hrl]
  clear KC X1 X2 hk1 hkep LT HB
  have hn0 : v1.cell? ⟨w.heap.size, 0, none⟩ = some (.int .i64 n) := by rw [X0.cell]; rfl
  have hn1 : v1.cell? ⟨w.heap.size, 1, none⟩ = some (.int .i64 l) := by rw [X0.cell]; rfl
  have hn2 : v1.cell? ⟨w.heap.size, 2, none⟩ = some (.int .i64 1) := by rw [X0.cell]; rfl
  have hr1 : v1.cell? ⟨R.rb, 1, none⟩ = some (.slice R.A0 m.a.length R.c0) := by rw [hk2.r.cell]; rfl
  have hr2 : v1.cell? ⟨R.rb, 2, none⟩ = some (.slice R.A1 m.b.length R.c1) := by rw [hk2.r.cell]; rfl
  go_wp2_with fail
  go_quiet (fail)
  go_wp2_with fail
  have hbd : Below v1.heap.size v1 (v1.drewN nq) := Below.drn (Below.refl _ _) _
  have KP := KP.drn nq
  have X0 := X0.be hbd
  have hk2 := hk2.be hbd
  have hh := hh.below hbd
  generalize v1.drewN nq = v2 at *
  clear hn0 hn1 hn2 hr1 hr2 hbd hk hmb
  have HKP := Aside.mk KP
  have S17 := Lib.hid (stylesH_len m n 1 row)
  go_loopw [6, 8, 22] (fun v x i wr => ∃ k : Nat, k ≤ m.b.length ∧ i = .int .i64 k ∧ Below v2.heap.size v2 wr ∧ Aside (wr.ownsRow v2.heap.size 43 2 v k (hopes ((stylesH m n 1 row).take k)))) (fun _ _ i _ => m.b.length - (intOf i).toNat)
  case atStart => exact ⟨0, Nat.zero_le _, rfl, Below.refl _ _, ⟨rfl, .inl ⟨rfl, rfl⟩⟩⟩
  case round =>
    obtain ⟨k, hk, rfl, hB, HO⟩ := hrel
    have HK := Aside.mk (hk2.be hB)
    have hvs := hB.size
    by_cases hlt : k < m.b.length
    · obtain ⟨b, o, A', c', hA, hb, hcell, ha⟩ := HK.out.rb'.at hlt
      obtain ⟨hcb, h17⟩ := HST.out k hlt
      have hmb := HK.out.memo.lt
      have ha := ha.arr (Nat.le_of_lt hmb)
      have hb' : b < wr.heap.size := by omega
      have HAQ := Lib.hid hA
      have hlS : k < (stylesH m n 1 row).length := by rw [stylesH_len]; exact hlt
      have E := Lib.hid (take_snoc' (stylesH m n 1 row) k hlS)
      have ES : (stylesH m n 1 row)[k] = meanH (countsH n m.b[k]) m.d row := by simp [stylesH, Riv.st]
      rw [ES] at E
      clear ES hlS
      generalize m.b[k] = c at *
      rw [h17] at hcell
      have H17 := Lib.hid h17
      have HCB := Lib.hid hcb
      have X := X0.below hB (by have := HKP.out.size; have := X0.lt; omega)
      have hn0 : wr.cell? ⟨w.heap.size, 0, none⟩ = some (.int .i64 n) := by rw [X.cell]; rfl
      have HL := Lib.hid h17
      have hw0 : w.heap.size < wr.heap.size := X.lt
      have hHH := hh.below hB
      clear h17 hcb
      by_cases hn : n = 0
      · have hz : ((n : Int) == 0) = true := by simp [hn]
        have hz' : (n == 0) = true := by simp [hn]
        have HN := Lib.hid hn
        clear hn
        go_wp2_with fail
        refine (clone17 A' c' c _ ha H17.out).mono ?_
        rintro e w1 ⟨g, cap, rfl, ho, zb, hg, hg2⟩
        have HS := ho.stored 8 (.int .i64 0)
        have hc8 : w1.cell? ⟨g, 8, none⟩ = some (.int .i64 (c[8]'(by have := H17.out; omega))) := by
          rw [ho.cellAt 8 (by omega)]; have := H17.out; simp [ints, this]
        have hf8 := ho.frozenAt 8
        have hBs : Below wr.heap.size wr (w1.setCell ⟨g, 8, none⟩ (.int .i64 0)) := zb.setCell hg _
        have HA : Aside (Arr (w1.setCell ⟨g, 8, none⟩ (.int .i64 0)) (some ⟨g, 0, none⟩) (ints (countsH n c))) := ⟨by
          have := Arr.own HS.1
          rw [ints_set] at this
          simpa [countsH, HN.out] using this⟩
        have HOW := Aside.mk (own_kept' HO.out hBs)
        have HK3 := Aside.mk (HK.out.be hBs)
        have hHH3 := hHH.below hBs
        have hB3 := hB.trans (hBs.mono hvs)
        clear HS ho zb
        go_wp2_with fail
        generalize w1.setCell ⟨g, 8, none⟩ (.int .i64 0) = v3 at *
        refine (rmean17 m R (countsH n c) AH cH row (some ⟨g, 0, none⟩) cap v3 HK3.out d1 d2 (countsH_ok n HCB.out).1 ((countsH_ok n HCB.out).2.trans H17.out) HA.out hHH3 hrl HIN.out).mono ?_
        rintro e v4 ⟨rfl, zb⟩
        have HOW := Aside.mk (own_kept' HOW.out zb)
        have hB4 := hB3.trans (zb.mono hB3.size)
        have hvs4 := hB4.size
        clear HK3 HA hHH3 hHH hBs hc8 hf8 hg hg2 hcell hA hb' hb
        go_wp2_with (at_builtin; refine wpList_append_own_at _ rfl _ _ 56 rfl v2.heap.size 43 i0 (.agg #[.int .i64 0, .int .i64 0]) 2 16 Try.underlying56 hi hz0 hz1 hz2 rfl (by decide) _ _ _ rfl (HOW.out.alloc _) ⟨v4.heap.size, 0, none⟩ 1 1 [.int .i64 (meanH (countsH n c) m.d row).1, .int .i64 (meanH (countsH n c) m.d row).2] rfl rfl (World.news_of_block (cs := #[.int .i64 (meanH (countsH n c) m.d row).1, .int .i64 (meanH (countsH n c) m.d row).2]) (fr := (0, 0)) (World.alloc_heap_new _ _)) (by simp [Value.oneCell']) (by unfold maxLen; omega) (by omega) (by simp; omega) ?_; intro v' w1 hown' hgrow hnil hloc; have HO' := Aside.mk hown'; have HG' := Aside.mk hgrow; clear hown' hgrow hnil hloc)
        go_roundw
        case rel =>
          (repeat apply Exists.intro)
          refine ⟨?_, ?_⟩
          rotate_left
          · rw [HAQ.out]
          exact ⟨k + 1, by omega, by go_num, Below.grown (Below.al' hB4 _) HG'.out (by simp; omega) (fun k hk => own_lo' HOW.out k hk), ⟨by rw [E.out, hopes_snoc]; simpa using HO'.out⟩⟩
        case measure => simp [intOf]; omega
      · have hz : ((n : Int) == 0) = false := by simp [hn]
        have hz' : (n == 0) = false := by simp [hn]
        have HA : Aside (Arr wr A' (ints (countsH n c))) := ⟨by simpa [countsH, hn] using ha⟩
        have HK3 := HK
        clear hn
        go_wp2_with fail
        refine (rmean17 m R (countsH n c) AH cH row A' c' wr HK3.out d1 d2 (countsH_ok n HCB.out).1 ((countsH_ok n HCB.out).2.trans H17.out) HA.out hHH hrl HIN.out).mono ?_
        rintro e v4 ⟨rfl, zb⟩
        have HOW := Aside.mk (own_kept' HO.out zb)
        have hB4 := hB.trans (zb.mono hvs)
        have hvs4 := hB4.size
        clear HK3 HA hHH hcell hA hb' hb
        go_wp2_with (at_builtin; refine wpList_append_own_at _ rfl _ _ 56 rfl v2.heap.size 43 i0 (.agg #[.int .i64 0, .int .i64 0]) 2 16 Try.underlying56 hi hz0 hz1 hz2 rfl (by decide) _ _ _ rfl (HOW.out.alloc _) ⟨v4.heap.size, 0, none⟩ 1 1 [.int .i64 (meanH (countsH n c) m.d row).1, .int .i64 (meanH (countsH n c) m.d row).2] rfl rfl (World.news_of_block (cs := #[.int .i64 (meanH (countsH n c) m.d row).1, .int .i64 (meanH (countsH n c) m.d row).2]) (fr := (0, 0)) (World.alloc_heap_new _ _)) (by simp [Value.oneCell']) (by unfold maxLen; omega) (by omega) (by simp; omega) ?_; intro v' w1 hown' hgrow hnil hloc; have HO' := Aside.mk hown'; have HG' := Aside.mk hgrow; clear hown' hgrow hnil hloc)
        go_roundw
        case rel => exact ⟨k + 1, by omega, by go_num, Below.grown (Below.al' hB4 _) HG'.out (by simp; omega) (fun k hk => own_lo' HOW.out k hk), ⟨by rw [E.out, hopes_snoc]; simpa using HO'.out⟩⟩
        case measure => simp [intOf]; omega
    · obtain rfl : k = m.b.length := by omega
      have HO1 := HO.out
      rw [List.take_of_length_le (by rw [stylesH_len]; exact Nat.le_refl _)] at HO1
      obtain ⟨AS, cS, rfl, hS⟩ := Arr.of_own2 HO1
      have HCAP := own_cap HO1
      have HS := Aside.mk hS
      clear hS HO HO1
      go_wp2
      go_ret
      exact ⟨AS, cS, rfl, by rw [HROW.out]; exact HS.out, HKP.out.th (Kept.of hB), HK.out, HCAP.1, HCAP.2⟩
end Go.Proofs.Ytjbgdpbeabakiaa
