/- Chapter 11: contracts of reckon and Value. -/
import Derived.Test.YtjbgdpbeabakiaaKB
import Derived.Laws.EntriesVeiled
namespace Go.Proofs.Ytjbgdpbeabakiaa
open Go.RowKit Go.Shelf
set_option linter.unusedVariables false
set_option linter.unusedSimpArgs false
def rpOf (s : Nat) (A0 A1 : Option Addr) (c0 c1 : Nat) : Rp := ⟨s + 1, s + 2, s + 4, s + 3, c0, c1, A0, A1⟩
theorem MapAll.al {κ : Type} [BEq κ] [LawfulBEq κ] [DecidableEq κ] {enc : κ → Value} {Q : κ → Value → Prop} {w : World} {r : Nat} (h : MapAll enc Q w r) (o : Obj) : MapAll enc Q (w.alloc o) r := h.below (Below.al (Below.refl _ _) o) h.lt
theorem MapAll.new' {κ : Type} [BEq κ] [LawfulBEq κ] [DecidableEq κ] (enc : κ → Value) (Q : κ → Value → Prop) (w : World) {r : Nat} (h : r = w.heap.size) : MapAll enc Q (w.alloc (.map #[] 0)) r := by subst h; exact MapAll.new enc Q w
set_option maxHeartbeats 1000000 in
set_option maxRecDepth 100000 in
theorem reckon_c (A0 A1 : Option Addr) (c0 c1 : Nat) (m : Riv) (w : World) (hra : Rows w.heap.size w A0 m.a) (hrb : Rows w.heap.size w A1 m.b) :
    Calls Try.prog 35 #[rivV m A0 A1 c0 c1] w fun e w' => e = .returned (.pointer (some ⟨w.heap.size + 1, 0, none⟩)) ∧ Rk m (rpOf w.heap.size A0 A1 c0 c1) w' ∧ Below w.heap.size w w' := by
  have hmm := @run_makeMap Try.prog
  unfold rivV
  go_enter Try.func35, Try.ntmps35
  go_wp2
  go_ret
  have HB : Below w.heap.size w (((((w.alloc (.cells #[.int .i64 m.d, .slice A0 m.a.length c0, .slice A1 m.b.length c1] 25)).alloc (.cells #[.int .i64 m.d, .slice A0 m.a.length c0, .slice A1 m.b.length c1, .func (.func 42) #[] #[.pointer (some ⟨w.heap.size + 4, 0, none⟩), .pointer (some ⟨w.heap.size + 2, 0, none⟩)]] 72)).alloc (.cells #[.pointer (some ⟨w.heap.size + 1, 0, none⟩)] 73)).alloc (.map #[] 0)).alloc (.cells #[.map (some (w.heap.size + 3))] 82)) := (by repeat (with_reducible first | exact Below.refl _ _ | assumption | refine Below.al ?_ _ | refine Below.dr ?_ | refine Below.drn ?_ _ | refine Below.sc ?_ (by simp <;> omega) _ | refine Below.th ?_ (by assumption)))
  have M : MapAll encS (Qm m) ((((w.alloc (.cells #[.int .i64 m.d, .slice A0 m.a.length c0, .slice A1 m.b.length c1] 25)).alloc (.cells #[.int .i64 m.d, .slice A0 m.a.length c0, .slice A1 m.b.length c1, .func (.func 42) #[] #[.pointer (some ⟨w.heap.size + 4, 0, none⟩), .pointer (some ⟨w.heap.size + 2, 0, none⟩)]] 72)).alloc (.cells #[.pointer (some ⟨w.heap.size + 1, 0, none⟩)] 73)).alloc (.map #[] 0)) (w.heap.size + 3) := MapAll.new' _ _ _ (by simp)
  refine ⟨rfl, ⟨?_, ?_, ?_, ?_, ?_, ?_, by simp [rpOf], by simp [rpOf], by simp [rpOf]⟩, HB⟩
  · exact (((Blk.fresh' (by simp [rpOf])).al _).al _).al _
  · exact ((Blk.fresh' (by simp [rpOf])).al _).al _
  · exact Blk.fresh' (by simp [rpOf])
  · exact (hra.below HB).mono (by simp [rpOf])
  · exact (hrb.below HB).mono (by simp [rpOf])
  · exact M.al _
end Go.Proofs.Ytjbgdpbeabakiaa
