/- Chapter 11: a reckoning in memory; contracts of Clone, nexts; its iterator. -/
import Derived.Test.YtjbgdpbeabakiaaK5
import Derived.Test.YtjbgdpbeabakiaaJ1
namespace Go.Proofs.Ytjbgdpbeabakiaa
open Go.RowKit Go.Shelf
set_option linter.unusedVariables false
set_option linter.unusedSimpArgs false
attribute [local go_sem] Oper.semAt_some
/-- a row that reads as a list, as what is appended -/
theorem World.news_of_arr {w : World} {ad : Addr} {cs : List Value} (h : Arr w (some ad) cs) : ∀ (j : Nat) (u : Value), cs[j]? = some u → w.cell? (ad.add j) = some u := fun j u hj => by
  have hjl := (List.getElem?_eq_some_iff.1 hj).1
  rcases h with rfl | ⟨b, o, hA, hb, hc⟩
  · simp at hjl
  · obtain rfl : ad = ⟨b, o, none⟩ := by simpa using hA
    have : ((⟨b, o, none⟩ : Addr).add j) = ⟨b, o + j, none⟩ := by unfold Addr.add; by_cases h : j = 0 <;> simp [h]
    rw [this, hc j hjl, hj]
theorem own_made (W : World) (e : Nat) (base : Nat) (hb : base ≤ W.heap.size) : (W.alloc (.cells #[] e)).ownsRow base e 1 (.slice (some ⟨W.heap.size, 0, none⟩) 0 0) 0 [] := World.ownsRow_made W #[] 0 hb (by unfold maxLen; omega) (by simp)
theorem own_at {w : World} {base e n : Nat} {v : Value} {xs : List Value} (h : w.ownsRow base e 1 v n xs) (hn : 1 ≤ n) : ∃ g c, v = .slice (some ⟨g, 0, none⟩) n c ∧ base ≤ g ∧ g < w.heap.size := by
  rcases h.2 with ⟨_, h0⟩ | ⟨g, cap, cur, rfl, hg, hh, _⟩
  · omega
  · exact ⟨g, cap, rfl, hg, (Array.getElem?_eq_some_iff.1 hh).1⟩
structure Rp where
  rb : Nat
  rv : Nat
  kv : Nat
  mb : Nat
  c0 : Nat
  c1 : Nat
  A0 : Option Addr
  A1 : Option Addr
def hopeVal (x : Int × Int) : Value := .agg #[.int .i64 x.1, .int .i64 x.2]
def Qm (m : Riv) (k : Int × Int × Int) (v : Value) : Prop := v = hopeVal (hopeH m k.1.toNat k.2.1 k.2.2)
/-- a reckoning of the rivals m: its struct, the two variables, the map of what is known -/
structure Rk (m : Riv) (R : Rp) (w : World) : Prop where
  r : Blk w R.rb #[.int .i64 m.d, .slice R.A0 m.a.length R.c0, .slice R.A1 m.b.length R.c1, .func (.func 42) #[] #[.pointer (some ⟨R.kv, 0, none⟩), .pointer (some ⟨R.rv, 0, none⟩)]] 72
  v : Blk w R.rv #[.pointer (some ⟨R.rb, 0, none⟩)] 73
  k : Blk w R.kv #[.map (some R.mb)] 82
  ra : Rows R.mb w R.A0 m.a
  rb' : Rows R.mb w R.A1 m.b
  memo : MapAll encS (Qm m) w R.mb
  n1 : R.rb ≠ R.mb
  n2 : R.rv ≠ R.mb
  n3 : R.kv ≠ R.mb
theorem Rk.be {m : Riv} {R : Rp} {w w' : World} (h : Rk m R w) (hb : Below w.heap.size w w') : Rk m R w' :=
  ⟨h.r.be hb, h.v.be hb, h.k.be hb, h.ra.below (hb.mono (Nat.le_of_lt h.memo.lt)), h.rb'.below (hb.mono (Nat.le_of_lt h.memo.lt)), h.memo.below hb h.memo.lt, h.n1, h.n2, h.n3⟩
theorem Rk.kept {m : Riv} {R : Rp} {w w' : World} (h : Rk m R w) (hk : Kept R.mb w w') (hm : MapAll encS (Qm m) w' R.mb) : Rk m R w' :=
  ⟨h.r.kept hk h.n1, h.v.kept hk h.n2, h.k.kept hk h.n3, h.ra.below (hk.below (Nat.le_refl _) (Nat.le_of_lt h.memo.lt)), h.rb'.below (hk.below (Nat.le_refl _) (Nat.le_of_lt h.memo.lt)), hm, h.n1, h.n2, h.n3⟩
/-- what the asking of a state's hope leaves -/
def HopePost (m : Riv) (R : Rp) (n : Nat) (l h : Int) (w : World) (e : Ending) (w' : World) : Prop := e = .returned (hopeVal (hopeH m n l h)) ∧ Kept R.mb w w' ∧ Rk m R w'
def HopeOk (m : Riv) (R : Rp) (n : Nat) : Prop := ∀ (l h : Int) (w : World), -96 ≤ l → l ≤ 96 → (h = 0 ∨ h = 1) → Rk m R w →
  Calls Try.prog 42 #[.agg #[.int .i64 n, .int .i64 l, .int .i64 h], .pointer (some ⟨R.kv, 0, none⟩), .pointer (some ⟨R.rv, 0, none⟩)] w (HopePost m R n l h w)
theorem nexts_c (rb : Nat) (n l h : Int) (w : World) :
    Calls Try.prog 46 #[.pointer (some ⟨rb, 0, none⟩), .agg #[.int .i64 n, .int .i64 l, .int .i64 h]] w fun e w' => e = .returned (.func (.func 58) #[] #[.pointer (some ⟨w.heap.size + 1, 0, none⟩), .pointer (some ⟨w.heap.size, 0, none⟩)]) ∧
      w' = (w.alloc (.cells #[.pointer (some ⟨rb, 0, none⟩)] 73)).alloc (.cells #[.int .i64 n, .int .i64 l, .int .i64 h] 27) := by
  go_enter Try.func46, Try.ntmps46
  go_wp2
  go_ret
  exact ⟨rfl, rfl⟩
set_option maxHeartbeats 1000000 in
set_option maxRecDepth 100000 in
theorem clone_c (A : Option Addr) (c : Nat) (l : List Int) (w : World) (hr : Arr w A (ints l)) (h1 : 1 ≤ l.length) (hl : l.length ≤ 60) :
    Calls Try.prog 47 #[.slice A l.length c] w fun e w' => ∃ g cap, e = .returned (.slice (some ⟨g, 0, none⟩) l.length cap) ∧ w'.ownsRow w.heap.size 3 1 (.slice (some ⟨g, 0, none⟩) l.length cap) l.length (ints l) ∧ Below w.heap.size w w' ∧ w.heap.size ≤ g ∧ g < w'.heap.size := by
  obtain ⟨i0, hi, hz0, hz1, hz2⟩ := info_parts Try.infoI
  obtain ⟨b, o, rfl, hb0, _⟩ := hr.int_at (i := 0) (by omega)
  have HN := Aside.mk (fun (o' : Obj) => World.news_of_arr (hr.al o'))
  have heq : ∀ w : World, (binOp .eql 53 (.slice (some ⟨b, o, none⟩) l.length c) (.slice none 0 0)).run Try.prog w = .ok (.bool false) w := fun w => Lib.run_eql_slice_nil w _ _ _ _ _ _ _ Try.underlying53
  go_enter Try.func47, Try.ntmps47
  go_wp2_with (at_builtin; refine wpList_append_own_at _ rfl _ _ 53 rfl w.heap.size 3 i0 (.int .i64 0) 1 8 Try.underlying53 hi hz0 hz1 hz2 rfl (by decide) _ _ _ rfl (own_made _ _ _ (Nat.le_refl _)) ⟨b, o, none⟩ l.length c (ints l) rfl (by simp [ints]) (HN.out _) (ints_oneCell .i64 l) (by unfold maxLen; omega) (by omega) (by simp) ?_; intro v' w1 hown' hgrow hnil hloc; have HO' := Aside.mk hown'; have HG' := Aside.mk hgrow; clear hown' hgrow hnil hloc)
  obtain ⟨g, cg, rfl, hg, hg2⟩ := own_at HO'.out (by omega)
  have HB1 : Below w.heap.size w w1 := Below.grown (Below.al (Below.refl _ _) _) HG'.out (by simp) (fun k hk => Nat.le_of_eq (Option.some.inj (show some w.heap.size = some k from hk)))
  have HO1 : Aside (w1.ownsRow w.heap.size 3 1 (.slice (some ⟨g, 0, none⟩) l.length cg) l.length (ints l)) := ⟨by simpa using HO'.out⟩
  simp only [Nat.zero_add]
  go_wp2
  go_ret
  exact ⟨g, cg, rfl, HO1.out, HB1, hg, hg2⟩
end Go.Proofs.Ytjbgdpbeabakiaa
