/- Blocks of cells known whole; worlds that are as they were but for one block and new ones. -/
import Derived.Test.YtjbgdpbeabakiaaM2
namespace Go.Proofs.Ytjbgdpbeabakiaa
open Go.RowKit
set_option linter.unusedVariables false
set_option linter.unusedSimpArgs false
def Blk (W : World) (b : Nat) (cs : Array Value) (T : TypeId) : Prop := W.heap[b]? = some (.cells cs T (0, 0))
theorem Blk.lt {W : World} {b : Nat} {cs : Array Value} {T : TypeId} (h : Blk W b cs T) : b < W.heap.size := (Array.getElem?_eq_some_iff.1 h).1
theorem Blk.cell {W : World} {b : Nat} {cs : Array Value} {T : TypeId} (h : Blk W b cs T) (i : Nat) : W.cell? ⟨b, i, none⟩ = cs[i]? := by simp [World.cell?, show W.heap[b]? = _ from h]
theorem Blk.frozen {W : World} {b : Nat} {cs : Array Value} {T : TypeId} (h : Blk W b cs T) (i : Nat) : W.frozen? ⟨b, i, none⟩ = false := by simp [World.frozen?, show W.heap[b]? = _ from h]
theorem Blk.fresh (W : World) (cs : Array Value) (T : TypeId) : Blk (W.alloc (.cells cs T)) W.heap.size cs T := by show (W.heap.push _)[W.heap.size]? = _; simp
theorem Blk.at {W W' : World} {b : Nat} {cs : Array Value} {T : TypeId} (h : Blk W b cs T) (he : W'.heap[b]? = W.heap[b]?) : Blk W' b cs T := he.trans h
theorem Blk.below {W W' : World} {B b : Nat} {cs : Array Value} {T : TypeId} (h : Blk W b cs T) (hb : Below B W W') (hB : b < B) : Blk W' b cs T := h.at (hb.block b hB)
theorem Blk.be {W W' : World} {b : Nat} {cs : Array Value} {T : TypeId} (h : Blk W b cs T) (hb : Below W.heap.size W W') : Blk W' b cs T := h.at (hb.block b h.lt)
theorem Blk.al {W : World} {b : Nat} {cs : Array Value} {T : TypeId} (h : Blk W b cs T) (o : Obj) : Blk (W.alloc o) b cs T := h.be (Below.al (Below.refl _ _) _)
theorem Blk.dr {W : World} {b : Nat} {cs : Array Value} {T : TypeId} (h : Blk W b cs T) : Blk W.drew b cs T := h
theorem Blk.set {W : World} {b : Nat} {cs : Array Value} {T : TypeId} (h : Blk W b cs T) (i : Nat) (v : Value) : Blk (W.setCell ⟨b, i, none⟩ v) b (cs.setIfInBounds i v) T := by
  unfold Blk at *
  simp [World.setCell, Array.getElem?_modify, h]
theorem Blk.other {W : World} {b : Nat} {cs : Array Value} {T : TypeId} (h : Blk W b cs T) (a : Addr) (v : Value) (hne : b ≠ a.block) : Blk (W.setCell a v) b cs T := h.at (Below.heap_setCell W a v b hne)

/-- as it was, but for block m and new ones -/
def Kept (m : Nat) (w w' : World) : Prop := w.grownBy w' (some m)
theorem Kept.refl (m : Nat) (w : World) : Kept m w w := ⟨rfl, rfl, rfl, Nat.le_refl _, fun _ _ _ => rfl⟩
theorem Kept.size {m : Nat} {w w' : World} (h : Kept m w w') : w.heap.size ≤ w'.heap.size := World.grownBy.size h
theorem Kept.th {m : Nat} {a b c : World} (h : Kept m a b) (k : Kept m b c) : Kept m a c :=
  ⟨k.os.trans h.os, k.tape.trans h.tape, k.output.trans h.output, Nat.le_trans h.size k.size, fun i hi hne => (k.block i (Nat.lt_of_lt_of_le hi h.size) hne).trans (h.block i hi hne)⟩
theorem Kept.of {m : Nat} {w w' : World} (h : Below w.heap.size w w') : Kept m w w' := ⟨h.os, h.tape, h.output, h.size, fun k hk _ => h.block k hk⟩
theorem Kept.be {m : Nat} {a b c : World} (h : Kept m a b) (k : Below b.heap.size b c) : Kept m a c := h.th (Kept.of k)
theorem Kept.al {m : Nat} {a b : World} (h : Kept m a b) (o : Obj) : Kept m a (b.alloc o) := h.be (Below.al (Below.refl _ _) _)
theorem Kept.dr {m : Nat} {a b : World} (h : Kept m a b) : Kept m a b.drew := ⟨h.os, h.tape, h.output, h.size, h.block⟩
theorem Kept.drn {m : Nat} {a b : World} (h : Kept m a b) (n : Nat) : Kept m a (b.drewN n) := ⟨h.os, h.tape, h.output, h.size, h.block⟩
theorem Kept.sc {m : Nat} {a b : World} (h : Kept m a b) {p : Addr} (hp : a.heap.size ≤ p.block) (u : Value) : Kept m a (b.setCell p u) :=
  ⟨h.os, h.tape, h.output, by have := h.size; simp [World.setCell]; exact this, fun k hk hne => (Below.heap_setCell _ _ _ _ (by omega)).trans (h.block k hk hne)⟩
/-- nothing below the block has turned -/
theorem Kept.below {m B : Nat} {w w' : World} (h : Kept m w w') (hm : B ≤ m) (hB : B ≤ w.heap.size) : Below B w w' := ⟨h.os, h.tape, h.output, h.size, fun k hk => h.block k (by omega) (fun e => by cases e; omega)⟩
theorem Blk.kept {W W' : World} {m b : Nat} {cs : Array Value} {T : TypeId} (h : Blk W b cs T) (hk : Kept m W W') (hne : b ≠ m) : Blk W' b cs T := h.at (hk.block b h.lt (fun e => hne (by cases e; rfl)))
end Go.Proofs.Ytjbgdpbeabakiaa
