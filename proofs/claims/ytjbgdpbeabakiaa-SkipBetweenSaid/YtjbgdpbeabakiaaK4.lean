/- Chapter 11: contract of the reckoning's mean. -/
import Derived.Test.YtjbgdpbeabakiaaK3
import Derived.Deep.RegionHeld3
import Derived.Deep.AppendLies
namespace Go.Proofs.Ytjbgdpbeabakiaa
open Go.RowKit Go.Shelf
set_option linter.unusedVariables false
set_option linter.unusedSimpArgs false
theorem Blk.grown {W W' : World} {b : Nat} {cs : Array Value} {T : TypeId} {row : Option Nat} (h : Blk W b cs T) (hg : W.grownBy W' row) (hne : row ≠ some b) : Blk W' b cs T := h.at (hg.block b h.lt (fun e => hne e.symm))
theorem Blk.news {W : World} {b : Nat} {x : Value} {T : TypeId} (h : Blk W b #[x] T) : ∀ (j : Nat) (u : Value), [x][j]? = some u → W.cell? ((⟨b, 0, none⟩ : Addr).add j) = some u := fun j u hj => by
  have := World.news_of_block (w := W) (B := b) (cs := #[x]) (t := T) (fr := (0, 0)) h j u (by simpa using hj)
  exact this
theorem own_none' (W : World) (base e : Nat) : W.ownsRow base e 1 (.slice none 0 0) 0 [] := ⟨by simp, .inl ⟨rfl, rfl⟩⟩
theorem own_lo' {w : World} {base e size n : Nat} {v : Value} {xs : List Value} (h : w.ownsRow base e size v n xs) : ∀ k, v.ownBlock = some k → base ≤ k := fun k hk => (h.lt k hk).1
theorem Try.infoF' : (Try.prog.info? 41).map (fun i => (i.zero, i.size, i.bytes)) = some (some (.int .i64 0), 1, 8) := by kernel_rfl
def fsts (l : List (Int × Int)) : List Int := l.map Prod.fst
def snds (l : List (Int × Int)) : List Int := l.map Prod.snd
theorem fsts_snoc (l : List (Int × Int)) (k : Nat) (hk : k < l.length) : fsts (l.take (k + 1)) = fsts (l.take k) ++ [l[k].1] := by
  unfold fsts; rw [List.take_succ_eq_append_getElem hk, List.map_append]; rfl
theorem snds_snoc (l : List (Int × Int)) (k : Nat) (hk : k < l.length) : snds (l.take (k + 1)) = snds (l.take k) ++ [l[k].2] := by
  unfold snds; rw [List.take_succ_eq_append_getElem hk, List.map_append]; rfl
def meanH (c : List Int) (d : Int) (l : List (Int × Int)) : Int × Int := (lowM c (fsts l) d, highM c (snds l) d)
/-- two rows that lie in blocks of their own -/
def Apart (u v : Value) : Prop := ∀ b, u.ownBlock = some b → v.ownBlock ≠ some b
theorem Apart.ne {u v : Value} (h : Apart u v) : u.ownBlock = none ∨ u.ownBlock ≠ v.ownBlock := by
  cases e : u.ownBlock with
  | none => exact .inl rfl
  | some b => exact .inr (fun e2 => h b e e2.symm)
theorem Apart.ne' {u v : Value} (h : Apart u v) : v.ownBlock = none ∨ v.ownBlock ≠ u.ownBlock := by
  cases e : v.ownBlock with
  | none => exact .inl rfl
  | some b => exact .inr (fun e2 => h b e2.symm e)
theorem Apart.old {u v : Value} (h : Apart u v) {g S H : Nat} (hat : u.ownBlock = some g ∨ g = H) (hlt : ∀ b, v.ownBlock = some b → b < S) (hS : S ≤ H) : v.ownBlock ≠ some g := by
  rintro e
  rcases hat with h1 | rfl
  · exact h g h1 e
  · have := hlt _ e; omega
theorem Apart.old' {u v : Value} (h : Apart u v) {g S H : Nat} (hat : v.ownBlock = some g ∨ g = H) (hlt : ∀ b, u.ownBlock = some b → b < S) (hS : S ≤ H) : u.ownBlock ≠ some g := by
  rintro e
  rcases hat with h1 | rfl
  · exact h g e h1
  · have := hlt _ e; omega
theorem Apart.fresh {u v : Value} (h : Apart u v) {g g' S H H' n n' c c' : Nat} (hat : u.ownBlock = some g ∨ g = H) (hat' : v.ownBlock = some g' ∨ g' = H') (hlt : ∀ b, u.ownBlock = some b → b < S) (hlt' : ∀ b, v.ownBlock = some b → b < S)
    (hS : S ≤ H) (hS' : S ≤ H') (hgg : g < H' ∨ g' < H) : Apart (.slice (some ⟨g, 0, none⟩) n c) (.slice (some ⟨g', 0, none⟩) n' c') := by
  rintro b e e'
  simp [Value.ownBlock] at e e'
  subst e
  subst e'
  rcases hat with h1 | h1 <;> rcases hat' with h2 | h2
  · exact h _ h1 h2
  · have := hlt _ h1; omega
  · have := hlt' _ h2; omega
  · omega
theorem ints_snoc (l : List Int) (x : Int) : ints (l ++ [x]) = ints l ++ [.int .i64 x] := by simp [ints]
theorem own_ne {g n c : Nat} {v : Value} (h : v.ownBlock ≠ some g) : (Value.slice (some ⟨g, 0, none⟩) n c).ownBlock = none ∨ (Value.slice (some ⟨g, 0, none⟩) n c).ownBlock ≠ v.ownBlock := .inr fun e => h e.symm
theorem Blk.fresh' {W : World} {b : Nat} {cs : Array Value} {T : TypeId} (h : b = W.heap.size) : Blk (W.alloc (.cells cs T)) b cs T := by subst h; exact Blk.fresh _ _ _
set_option maxHeartbeats 4000000 in
set_option maxRecDepth 100000 in
theorem rmean_c (rb : Nat) (A B : Option Addr) (c0 c1 : Nat) (c : List Int) (l : List (Int × Int)) (d : Int) (w : World) (hrb : rb < w.heap.size) (hd : w.cell? ⟨rb, 0, none⟩ = some (.int .i64 d)) (hc : Arr w A (ints c)) (hl : Arr w B (hopes l))
    (hcl : c.length = l.length) (h49 : l.length ≤ 49) (m1 : meanOk c (fsts l) d = true) (m2 : meanOk c (snds l) d = true) :
    Calls Try.prog 48 #[.pointer (some ⟨rb, 0, none⟩), .slice A c.length c0, .slice B l.length c1] w fun e w' => e = .returned (.agg #[.int .i64 (meanH c d l).1, .int .i64 (meanH c d l).2]) ∧ Below w.heap.size w w' := by
  obtain ⟨i0, hi, hz0, hz1, hz2⟩ := info_parts Try.infoF'
  have HCL := Lib.hid hcl
  clear hcl
  go_enter Try.func48, Try.ntmps48
  go_wp2_with fail
  have X0 : Blk (w.alloc (.cells #[.int .i64 0, .int .i64 0] 43)) w.heap.size #[.int .i64 0, .int .i64 0] 43 := Blk.fresh _ _ _
  have HB0 : Below w.heap.size w (w.alloc (.cells #[.int .i64 0, .int .i64 0] 43)) := (by repeat (with_reducible first | exact Below.refl _ _ | assumption | refine Below.al ?_ _ | refine Below.dr ?_ | refine Below.drn ?_ _ | refine Below.sc ?_ (by simp <;> omega) _ | refine Below.th ?_ (by assumption)))
  have hs0 : w.heap.size < (w.alloc (.cells #[.int .i64 0, .int .i64 0] 43)).heap.size := by simp
  generalize w.alloc (.cells #[.int .i64 0, .int .i64 0] 43) = v at *
  go_loopw [7, 8, 10, 19] (fun ul uh x i wr => ∃ k : Nat, k ≤ l.length ∧ i = .int .i64 k ∧ Below v.heap.size v wr ∧ Aside (wr.ownsRow v.heap.size 41 1 ul k (ints (fsts (l.take k))) ∧ wr.ownsRow v.heap.size 41 1 uh k (ints (snds (l.take k))) ∧ Apart ul uh)) (fun _ _ _ i _ => l.length - (intOf i).toNat)
  case atStart => exact ⟨0, Nat.zero_le _, rfl, Below.refl _ _, ⟨own_none' _ _ _, own_none' _ _ _, fun b h => by simp [Value.ownBlock] at h⟩⟩
  case round =>
    obtain ⟨k, hk, rfl, hB, HO⟩ := hrel
    by_cases hlt : k < l.length
    · obtain ⟨b, o, rfl, hb, hx, hy⟩ := hopes_at ((hl.below HB0).below hB) hlt
      have e1 := Lib.hid (fsts_snoc l k hlt)
      have e2 := Lib.hid (snds_snoc l k hlt)
      have hws := hB.size
      generalize l[k] = q at *
      go_wp2_with fail
      have XH : Blk (wr.alloc (.cells #[.int .i64 q.1, .int .i64 q.2] 43)) wr.heap.size #[.int .i64 q.1, .int .i64 q.2] 43 := Blk.fresh _ _ _
      have hB1 : Below v.heap.size v (wr.alloc (.cells #[.int .i64 q.1, .int .i64 q.2] 43)) := Below.al hB _
      have HL := Aside.mk (HO.out.1.alloc (.cells #[.int .i64 q.1, .int .i64 q.2] 43))
      have HH := Aside.mk (HO.out.2.1.alloc (.cells #[.int .i64 q.1, .int .i64 q.2] 43))
      have HP := Aside.mk HO.out.2.2
      have HLT := Aside.mk (And.intro (fun g h => (HO.out.1.lt g h)) (fun g h => (HO.out.2.1.lt g h)))
      have hs1 : wr.heap.size < (wr.alloc (.cells #[.int .i64 q.1, .int .i64 q.2] 43)).heap.size := by simp
      generalize hv1 : wr.alloc (.cells #[.int .i64 q.1, .int .i64 q.2] 43) = v1 at *
      clear hv1 HO hx hy
      have hq1 : v1.cell? ⟨wr.heap.size, 0, none⟩ = some (.int .i64 q.1) := by rw [XH.cell]; rfl
      have hq2 : v1.cell? ⟨wr.heap.size, 1, none⟩ = some (.int .i64 q.2) := by rw [XH.cell]; rfl
      have hqb : ∀ o, (⟨wr.heap.size, o, none⟩ : Addr).block < v1.heap.size := fun o => hs1
      have NL : ∀ b, wr.heap.size ≤ b → u7.ownBlock ≠ some b := fun b hb e => by have := (HLT.out.1 _ e).2; omega
      have NH : ∀ b, wr.heap.size ≤ b → u8.ownBlock ≠ some b := fun b hb e => by have := (HLT.out.2 _ e).2; omega
      have NL := Aside.mk NL
      have NH := Aside.mk NH
      have LT7 := Aside.mk (fun b h => (HLT.out.1 b h).2)
      have LT8 := Aside.mk (fun b h => (HLT.out.2 b h).2)
      go_region_held3 (fun w' => w'.cell? ⟨wr.heap.size, 0, none⟩ = some (.int .i64 q.1) ∧ w'.cell? ⟨wr.heap.size, 1, none⟩ = some (.int .i64 q.2))
        (first
          | go_keep
          | (go_split_ands; refine ⟨?_, ?_⟩ <;> (rw [hgl.cell_far _ (by first | (simp; omega) | omega) (Ne.symm (NL.out _ (Nat.le_refl _)))]; first | assumption | go_keep))
          | (go_split_ands; refine ⟨?_, ?_⟩ <;> (rw [hgh.cell_far _ (by first | (simp; omega) | omega) (Ne.symm (NH.out _ (Nat.le_refl _)))]; first | assumption | go_keep)))
        (first
          | ((refine step_append_lies _ (by rfl) (.tmp 23) (.tmp 26) 98 (by rfl) v.heap.size 41 i0 (.int .i64 0) 1 8 Try.underlying98 hi hz0 hz1 hz2 rfl (by omega) u7 k (ints (fsts (l.take k))) (by rfl) (by repeat (with_reducible first | exact HL.out | refine World.ownsRow.alloc ?_ _ | refine World.ownsRow.drew ?_ | (refine World.ownsRow.kept ?_ hgh ?_; rotate_left; exact HP.out.ne))) ⟨v1.heap.size, 0, none⟩ 1 1 [.int .i64 q.1] (by rfl) (by rfl) (by refine Blk.news (T := 41) ?_; repeat (with_reducible first | (refine Blk.fresh' ?_; simp; done) | refine Blk.al ?_ _ | refine Blk.dr ?_ | (refine Blk.grown ?_ hgl (NL.out _ ?_); rotate_left; omega) | (refine Blk.grown ?_ hgh (NH.out _ ?_); rotate_left; omega))) (by simp [Value.oneCell']) (by omega) (by unfold maxLen; omega) (by omega) (by first | (simp; omega) | omega) _ rfl ?_; intro gl capl wl hol hgl hatl hltl; have hzl := hgl.size; (try simp at hzl)))
          | ((refine step_append_lies _ (by rfl) (.tmp 23) (.tmp 26) 98 (by rfl) v.heap.size 41 i0 (.int .i64 0) 1 8 Try.underlying98 hi hz0 hz1 hz2 rfl (by omega) u7 k (ints (fsts (l.take k))) (by rfl) (by repeat (with_reducible first | exact HL.out | refine World.ownsRow.alloc ?_ _ | refine World.ownsRow.drew ?_ | (refine World.ownsRow.kept ?_ hgh ?_; rotate_left; exact HP.out.ne))) ⟨v1.heap.size + 1, 0, none⟩ 1 1 [.int .i64 q.1] (by rfl) (by rfl) (by refine Blk.news (T := 41) ?_; repeat (with_reducible first | (refine Blk.fresh' ?_; simp; done) | refine Blk.al ?_ _ | refine Blk.dr ?_ | (refine Blk.grown ?_ hgl (NL.out _ ?_); rotate_left; omega) | (refine Blk.grown ?_ hgh (NH.out _ ?_); rotate_left; omega))) (by simp [Value.oneCell']) (by omega) (by unfold maxLen; omega) (by omega) (by first | (simp; omega) | omega) _ rfl ?_; intro gl capl wl hol hgl hatl hltl; have hzl := hgl.size; (try simp at hzl)))
          | ((refine step_append_lies _ (by rfl) (.tmp 28) (.tmp 31) 98 (by rfl) v.heap.size 41 i0 (.int .i64 0) 1 8 Try.underlying98 hi hz0 hz1 hz2 rfl (by omega) u8 k (ints (snds (l.take k))) (by rfl) (by repeat (with_reducible first | exact HH.out | refine World.ownsRow.alloc ?_ _ | refine World.ownsRow.drew ?_ | (refine World.ownsRow.kept ?_ hgl ?_; rotate_left; exact HP.out.ne'))) ⟨v1.heap.size, 0, none⟩ 1 1 [.int .i64 q.2] (by rfl) (by rfl) (by refine Blk.news (T := 41) ?_; repeat (with_reducible first | (refine Blk.fresh' ?_; simp; done) | refine Blk.al ?_ _ | refine Blk.dr ?_ | (refine Blk.grown ?_ hgl (NL.out _ ?_); rotate_left; omega) | (refine Blk.grown ?_ hgh (NH.out _ ?_); rotate_left; omega))) (by simp [Value.oneCell']) (by omega) (by unfold maxLen; omega) (by omega) (by first | (simp; omega) | omega) _ rfl ?_; intro gh caph wh hoh hgh hath hlth; have hzh := hgh.size; (try simp at hzh)))
          | ((refine step_append_lies _ (by rfl) (.tmp 28) (.tmp 31) 98 (by rfl) v.heap.size 41 i0 (.int .i64 0) 1 8 Try.underlying98 hi hz0 hz1 hz2 rfl (by omega) u8 k (ints (snds (l.take k))) (by rfl) (by repeat (with_reducible first | exact HH.out | refine World.ownsRow.alloc ?_ _ | refine World.ownsRow.drew ?_ | (refine World.ownsRow.kept ?_ hgl ?_; rotate_left; exact HP.out.ne'))) ⟨v1.heap.size + 1, 0, none⟩ 1 1 [.int .i64 q.2] (by rfl) (by rfl) (by refine Blk.news (T := 41) ?_; repeat (with_reducible first | (refine Blk.fresh' ?_; simp; done) | refine Blk.al ?_ _ | refine Blk.dr ?_ | (refine Blk.grown ?_ hgl (NL.out _ ?_); rotate_left; omega) | (refine Blk.grown ?_ hgh (NH.out _ ?_); rotate_left; omega))) (by simp [Value.oneCell']) (by omega) (by unfold maxLen; omega) (by omega) (by first | (simp; omega) | omega) _ rfl ?_; intro gh caph wh hoh hgh hath hlth; have hzh := hgh.size; (try simp at hzh)))
          | ((refine step_append_lies _ (by rfl) (.tmp 28) (.tmp 31) 98 (by rfl) v.heap.size 41 i0 (.int .i64 0) 1 8 Try.underlying98 hi hz0 hz1 hz2 rfl (by omega) u8 k (ints (snds (l.take k))) (by rfl) (by repeat (with_reducible first | exact HH.out | refine World.ownsRow.alloc ?_ _ | refine World.ownsRow.drew ?_ | (refine World.ownsRow.kept ?_ hgl ?_; rotate_left; exact HP.out.ne'))) ⟨wl.heap.size, 0, none⟩ 1 1 [.int .i64 q.2] (by rfl) (by rfl) (by refine Blk.news (T := 41) ?_; repeat (with_reducible first | (refine Blk.fresh' ?_; simp; done) | refine Blk.al ?_ _ | refine Blk.dr ?_ | (refine Blk.grown ?_ hgl (NL.out _ ?_); rotate_left; omega) | (refine Blk.grown ?_ hgh (NH.out _ ?_); rotate_left; omega))) (by simp [Value.oneCell']) (by omega) (by unfold maxLen; omega) (by omega) (by first | (simp; omega) | omega) _ rfl ?_; intro gh caph wh hoh hgh hath hlth; have hzh := hgh.size; (try simp at hzh))))
      all_goals
        go_wp2
        go_roundw
        case rel => exact ⟨k + 1, by omega, by go_num, (by repeat (with_reducible first | exact hB1 | refine Below.al ?_ _ | refine Below.dr ?_ | (refine Below.grown ?_ hgl ?_ (own_lo' HL.out); rotate_left; (first | omega | (simp; omega))) | (refine Below.grown ?_ hgh ?_ (own_lo' HH.out); rotate_left; (first | omega | (simp; omega))))), ⟨by rw [e1.out, ints_snoc]; repeat (with_reducible first | exact hol | refine World.ownsRow.alloc ?_ _ | refine World.ownsRow.drew ?_ | (refine World.ownsRow.kept ?_ hgh (own_ne (HP.out.old hatl LT8.out ?_)); rotate_left; (first | omega | (simp; omega)))), by rw [e2.out, ints_snoc]; repeat (with_reducible first | exact hoh | refine World.ownsRow.alloc ?_ _ | refine World.ownsRow.drew ?_ | (refine World.ownsRow.kept ?_ hgl (own_ne (HP.out.old' hath LT7.out ?_)); rotate_left; (first | omega | (simp; omega)))), HP.out.fresh hatl hath LT7.out LT8.out (by (first | omega | (simp; omega))) (by (first | omega | (simp; omega))) (by first | (left; (first | omega | (simp; omega)); done) | (right; (first | omega | (simp; omega)); done))⟩⟩
        case measure => simp [intOf]; omega
    · obtain rfl : k = l.length := by omega
      obtain ⟨o1, o2, _⟩ := HO.out
      rw [List.take_length] at o1 o2
      obtain ⟨A1, cA, rfl, a1⟩ := Arr.of_own o1
      obtain ⟨A2, cB, rfl, a2⟩ := Arr.of_own o2
      have f1 := Lib.hid (show (fsts l).length = l.length by simp [fsts])
      have f2 := Lib.hid (show (snds l).length = l.length by simp [snds])
      have K1 := Aside.mk (fun w hc a1 => Mean_c A A1 c0 cA c (fsts l) d w hc a1 (by have := HCL.out; omega) (by have := f1.out; omega))
      have K2 := Aside.mk (fun w hc a2 => Mean_c A A2 c0 cB c (snds l) d w hc a2 (by have := HCL.out; omega) (by have := f2.out; omega))
      rw [meanV, if_pos m1, f1.out] at K1
      rw [meanV, if_pos m2, f2.out] at K2
      have HM := Lib.hid (show meanH c d l = (lowM c (fsts l) d, highM c (snds l) d) from rfl)
      have hc := (hc.below HB0).below hB
      have hd : wr.cell? ⟨rb, 0, none⟩ = some (.int .i64 d) := (hB.cell (p := ⟨rb, 0, none⟩) (by show rb < _; omega)).trans ((HB0.cell (p := ⟨rb, 0, none⟩) hrb).trans hd)
      have X := X0.below hB hs0
      have HB := Below.th HB0 hB
      have hws := hB.size
      have hrw : rb < wr.heap.size := by omega
      clear HO o1 o2 m1 m2
      go_wp2_with fail
      refine (K1.out _ hc a1).mono ?_
      rintro e v2 ⟨rfl, zb⟩
      have hc := hc.below zb
      have a2 := a2.below zb
      have hd : v2.cell? ⟨rb, 0, none⟩ = some (.int .i64 d) := (zb.cell (p := ⟨rb, 0, none⟩) hrw).trans hd
      have X := X.be zb
      have HB := Below.th HB zb
      have hws2 := zb.size
      go_wp2_with fail
      refine (K2.out _ hc a2).mono ?_
      rintro e v3 ⟨rfl, zb2⟩
      have X := X.be zb2
      have HB := Below.th HB zb2
      have x0 := X.cell 0
      have x1 := X.cell 1
      have y0 := X.frozen 0
      have y1 := X.frozen 1
      have xl := X.lt
      simp at x0 x1
      go_wp2
      refine bodyPost_ret (v := .agg #[.int .i64 (lowM c (fsts l) d), .int .i64 (highM c (snds l) d)]) (by simp [x0, x1, results, Try.results48, go_sem]) rfl ?_
      exact ⟨by rw [HM.out], (by repeat (with_reducible first | exact Below.refl _ _ | assumption | refine Below.al ?_ _ | refine Below.dr ?_ | refine Below.drn ?_ _ | refine Below.sc ?_ (by simp <;> omega) _ | refine Below.th ?_ (by assumption)))⟩
end Go.Proofs.Ytjbgdpbeabakiaa
