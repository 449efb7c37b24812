import Derived.Test.YtjgndagejogfnaaT7
import Derived.Deep.CutBlock
import Derived.Deep.Cut
import Derived.Deep.CutRange
set_option linter.unusedVariables false
set_option linter.unusedSimpArgs false
namespace Go.Proofs.Ytjgndagejogfnaa.F
open Go.RowKit Go.Proofs.Ytjgndagejogfnaa.K
/-- the reference's strings, in memory -/
def StrsR (cs : Array Value) (w : World) (e : Ending) (w' : World) : Prop := ∃ g, e = .returned (.slice (some ⟨g, 0, none⟩) 10 10) ∧ w'.heap[g]? = some (.cells cs 9 (0, 0)) ∧ Below w.heap.size w w'
theorem heap_alloc_get (w : World) (o : Obj) (i : Nat) : (w.alloc o).heap[i]? = if i = w.heap.size then some o else w.heap[i]? := by
  unfold World.alloc
  exact Array.getElem?_push
theorem size_alloc' (w : World) (o : Obj) : (w.alloc o).heap.size = w.heap.size + 1 := by
  unfold World.alloc
  exact Array.size_push _
def S0 : Array Value := #[Value.string { data := #[47, 50] }, Value.string { data := #[105, 114, 99, 32, 115, 99, 114, 47, 54] }, Value.string { data := #[45] }, Value.string { data := #[45] }, Value.string { data := #[45] }, Value.string { data := #[45] }, Value.string { data := #[45] }, Value.string { data := #[45] }, Value.string { data := #[45] }, Value.string { data := #[45] }]
def S1 : Array Value := #[Value.string { data := #[45] }, Value.string { data := #[45] }, Value.string { data := #[47, 48] }, Value.string { data := #[116, 108, 115, 47, 49] }, Value.string { data := #[47, 48] }, Value.string { data := #[47, 49] }, Value.string { data := #[47, 49] }, Value.string { data := #[47, 49] }, Value.string { data := #[47, 49] }, Value.string { data := #[116, 108, 100, 47, 49] }]
def S2 : Array Value := #[Value.string { data := #[116, 108, 115, 47, 49] }, Value.string { data := #[47, 49] }, Value.string { data := #[105, 114, 99, 32, 115, 99, 114, 47, 54] }, Value.string { data := #[47, 51] }, Value.string { data := #[47, 53] }, Value.string { data := #[47, 53] }, Value.string { data := #[47, 54] }, Value.string { data := #[47, 55] }, Value.string { data := #[47, 56] }, Value.string { data := #[47, 57] }]
def S3 : Array Value := #[Value.string { data := #[47, 48] }, Value.string { data := #[116, 108, 102, 47, 48] }, Value.string { data := #[47, 50] }, Value.string { data := #[47, 50] }, Value.string { data := #[47, 52] }, Value.string { data := #[47, 52] }, Value.string { data := #[105, 114, 99, 32, 115, 116, 114, 47, 52] }, Value.string { data := #[105, 114, 99, 32, 115, 116, 114, 47, 52] }, Value.string { data := #[105, 114, 99, 32, 115, 116, 114, 47, 52] }, Value.string { data := #[116, 108, 100, 32, 105, 114, 99, 32, 115, 116, 114, 47, 52] }]
def S4 : Array Value := #[Value.string { data := #[45] }, Value.string { data := #[45] }, Value.string { data := #[45] }, Value.string { data := #[45] }, Value.string { data := #[115, 116, 114, 47, 52] }, Value.string { data := #[115, 116, 114, 47, 53] }, Value.string { data := #[115, 99, 114, 47, 54] }, Value.string { data := #[115, 99, 114, 47, 54] }, Value.string { data := #[115, 99, 114, 47, 56] }, Value.string { data := #[45] }]
def S5 : Array Value := #[Value.string { data := #[45] }, Value.string { data := #[45] }, Value.string { data := #[45] }, Value.string { data := #[45] }, Value.string { data := #[116, 108, 102, 47, 50] }, Value.string { data := #[116, 108, 102, 47, 51] }, Value.string { data := #[116, 108, 102, 47, 51] }, Value.string { data := #[116, 108, 102, 47, 51] }, Value.string { data := #[116, 108, 102, 47, 51] }, Value.string { data := #[45] }]
def S6 : Array Value := #[Value.string { data := #[45] }, Value.string { data := #[45] }, Value.string { data := #[115, 116, 97, 47, 50] }, Value.string { data := #[105, 114, 99, 32, 115, 99, 114, 32, 115, 99, 97, 47, 56] }, Value.string { data := #[47, 52] }, Value.string { data := #[47, 53] }, Value.string { data := #[115, 99, 97, 47, 56] }, Value.string { data := #[115, 99, 97, 32, 116, 108, 117, 47, 57] }, Value.string { data := #[115, 99, 97, 47, 56] }, Value.string { data := #[116, 108, 100, 32, 115, 99, 114, 32, 115, 99, 97, 47, 56] }]
def S7 : Array Value := #[Value.string { data := #[45] }, Value.string { data := #[45] }, Value.string { data := #[115, 116, 97, 47, 50] }, Value.string { data := #[105, 114, 99, 32, 115, 99, 114, 32, 115, 99, 110, 47, 54] }, Value.string { data := #[47, 52] }, Value.string { data := #[47, 53] }, Value.string { data := #[115, 99, 110, 47, 54] }, Value.string { data := #[115, 99, 110, 47, 55] }, Value.string { data := #[115, 99, 110, 47, 54] }, Value.string { data := #[116, 108, 100, 32, 115, 99, 114, 32, 115, 99, 110, 47, 54] }]
def S8 : Array Value := #[Value.string { data := #[45] }, Value.string { data := #[45] }, Value.string { data := #[115, 116, 97, 47, 50] }, Value.string { data := #[115, 116, 97, 47, 51] }, Value.string { data := #[47, 52] }, Value.string { data := #[47, 53] }, Value.string { data := #[105, 114, 99, 47, 55] }, Value.string { data := #[115, 99, 114, 47, 54] }, Value.string { data := #[105, 114, 99, 32, 116, 108, 117, 47, 57] }, Value.string { data := #[116, 108, 100, 32, 115, 99, 114, 47, 54] }]
def S9 : Array Value := #[Value.string { data := #[45] }, Value.string { data := #[45] }, Value.string { data := #[115, 116, 97, 47, 50] }, Value.string { data := #[115, 116, 97, 47, 51] }, Value.string { data := #[47, 52] }, Value.string { data := #[47, 53] }, Value.string { data := #[105, 114, 99, 32, 115, 99, 114, 47, 54] }, Value.string { data := #[115, 99, 114, 47, 54] }, Value.string { data := #[105, 114, 99, 32, 115, 99, 114, 47, 56] }, Value.string { data := #[116, 108, 100, 32, 115, 99, 114, 47, 54] }]
def S10 : Array Value := #[Value.string { data := #[45] }, Value.string { data := #[45] }, Value.string { data := #[115, 116, 97, 47, 50] }, Value.string { data := #[115, 116, 97, 47, 51] }, Value.string { data := #[115, 116, 97, 47, 52] }, Value.string { data := #[115, 116, 97, 47, 53] }, Value.string { data := #[115, 116, 97, 47, 54] }, Value.string { data := #[115, 116, 97, 47, 54] }, Value.string { data := #[115, 116, 97, 47, 54] }, Value.string { data := #[116, 108, 100, 32, 122, 114, 99, 32, 115, 116, 97, 47, 53] }]
def S11 : Array Value := #[Value.string { data := #[45] }, Value.string { data := #[45] }, Value.string { data := #[47, 50] }, Value.string { data := #[47, 51] }, Value.string { data := #[116, 108, 102, 47, 50] }, Value.string { data := #[116, 108, 102, 47, 51] }, Value.string { data := #[47, 54] }, Value.string { data := #[47, 54] }, Value.string { data := #[47, 56] }, Value.string { data := #[116, 108, 100, 32, 115, 99, 114, 47, 54] }]
def S12 : Array Value := #[Value.string { data := #[45] }, Value.string { data := #[45] }, Value.string { data := #[115, 99, 106, 47, 50] }, Value.string { data := #[115, 99, 106, 47, 51] }, Value.string { data := #[115, 99, 106, 47, 52] }, Value.string { data := #[115, 99, 106, 47, 53] }, Value.string { data := #[115, 99, 106, 47, 54] }, Value.string { data := #[115, 99, 106, 47, 55] }, Value.string { data := #[115, 99, 106, 47, 56] }, Value.string { data := #[115, 99, 106, 47, 57] }]
def S13 : Array Value := #[Value.string { data := #[45] }, Value.string { data := #[45] }, Value.string { data := #[47, 50] }, Value.string { data := #[47, 51] }, Value.string { data := #[47, 52] }, Value.string { data := #[47, 53] }, Value.string { data := #[47, 54] }, Value.string { data := #[47, 54] }, Value.string { data := #[47, 56] }, Value.string { data := #[47, 57] }]
def S14 : Array Value := #[Value.string { data := #[45] }, Value.string { data := #[45] }, Value.string { data := #[116, 108, 102, 47, 50] }, Value.string { data := #[116, 108, 102, 47, 51] }, Value.string { data := #[116, 108, 102, 47, 50] }, Value.string { data := #[116, 108, 102, 47, 51] }, Value.string { data := #[116, 108, 102, 47, 51] }, Value.string { data := #[116, 108, 102, 47, 51] }, Value.string { data := #[116, 108, 102, 47, 51] }, Value.string { data := #[116, 108, 100, 32, 105, 114, 99, 32, 115, 116, 114, 47, 53] }]
def S15 : Array Value := #[Value.string { data := #[45] }, Value.string { data := #[45] }, Value.string { data := #[47, 50] }, Value.string { data := #[47, 51] }, Value.string { data := #[47, 52] }, Value.string { data := #[47, 53] }, Value.string { data := #[47, 54] }, Value.string { data := #[47, 55] }, Value.string { data := #[47, 56] }, Value.string { data := #[115, 101, 114, 47, 57] }]
structure RowsAt (W : World) (gt : Nat) (g0 g1 g2 g3 g4 g5 g6 g7 g8 g9 g10 g11 g12 g13 g14 g15 : Nat) : Prop where
  t : W.heap[gt]? = some (.cells #[.slice (some ⟨g0, 0, none⟩) 10 10, .slice (some ⟨g1, 0, none⟩) 10 10, .slice (some ⟨g2, 0, none⟩) 10 10, .slice (some ⟨g3, 0, none⟩) 10 10, .slice (some ⟨g4, 0, none⟩) 10 10, .slice (some ⟨g5, 0, none⟩) 10 10, .slice (some ⟨g6, 0, none⟩) 10 10, .slice (some ⟨g7, 0, none⟩) 10 10, .slice (some ⟨g8, 0, none⟩) 10 10, .slice (some ⟨g9, 0, none⟩) 10 10, .slice (some ⟨g10, 0, none⟩) 10 10, .slice (some ⟨g11, 0, none⟩) 10 10, .slice (some ⟨g12, 0, none⟩) 10 10, .slice (some ⟨g13, 0, none⟩) 10 10, .slice (some ⟨g14, 0, none⟩) 10 10, .slice (some ⟨g15, 0, none⟩) 10 10] 64 (0, 0))
  r0 : W.heap[g0]? = some (.cells S0 9 (0, 0))
  r1 : W.heap[g1]? = some (.cells S1 9 (0, 0))
  r2 : W.heap[g2]? = some (.cells S2 9 (0, 0))
  r3 : W.heap[g3]? = some (.cells S3 9 (0, 0))
  r4 : W.heap[g4]? = some (.cells S4 9 (0, 0))
  r5 : W.heap[g5]? = some (.cells S5 9 (0, 0))
  r6 : W.heap[g6]? = some (.cells S6 9 (0, 0))
  r7 : W.heap[g7]? = some (.cells S7 9 (0, 0))
  r8 : W.heap[g8]? = some (.cells S8 9 (0, 0))
  r9 : W.heap[g9]? = some (.cells S9 9 (0, 0))
  r10 : W.heap[g10]? = some (.cells S10 9 (0, 0))
  r11 : W.heap[g11]? = some (.cells S11 9 (0, 0))
  r12 : W.heap[g12]? = some (.cells S12 9 (0, 0))
  r13 : W.heap[g13]? = some (.cells S13 9 (0, 0))
  r14 : W.heap[g14]? = some (.cells S14 9 (0, 0))
  r15 : W.heap[g15]? = some (.cells S15 9 (0, 0))
theorem chain16 (w : World) (A0 A1 A2 A3 A4 A5 A6 A7 A8 A9 A10 A11 A12 A13 A14 A15 T : Obj) : (((((((((((((((((w.alloc A0).alloc A1).alloc A2).alloc A3).alloc A4).alloc A5).alloc A6).alloc A7).alloc A8).alloc A9).alloc A10).alloc A11).alloc A12).alloc A13).alloc A14).alloc A15).alloc T).heap[w.heap.size]? = some A0 ∧ (((((((((((((((((w.alloc A0).alloc A1).alloc A2).alloc A3).alloc A4).alloc A5).alloc A6).alloc A7).alloc A8).alloc A9).alloc A10).alloc A11).alloc A12).alloc A13).alloc A14).alloc A15).alloc T).heap[w.heap.size + 1]? = some A1 ∧ (((((((((((((((((w.alloc A0).alloc A1).alloc A2).alloc A3).alloc A4).alloc A5).alloc A6).alloc A7).alloc A8).alloc A9).alloc A10).alloc A11).alloc A12).alloc A13).alloc A14).alloc A15).alloc T).heap[w.heap.size + 1 + 1]? = some A2 ∧ (((((((((((((((((w.alloc A0).alloc A1).alloc A2).alloc A3).alloc A4).alloc A5).alloc A6).alloc A7).alloc A8).alloc A9).alloc A10).alloc A11).alloc A12).alloc A13).alloc A14).alloc A15).alloc T).heap[w.heap.size + 1 + 1 + 1]? = some A3 ∧ (((((((((((((((((w.alloc A0).alloc A1).alloc A2).alloc A3).alloc A4).alloc A5).alloc A6).alloc A7).alloc A8).alloc A9).alloc A10).alloc A11).alloc A12).alloc A13).alloc A14).alloc A15).alloc T).heap[w.heap.size + 1 + 1 + 1 + 1]? = some A4 ∧ (((((((((((((((((w.alloc A0).alloc A1).alloc A2).alloc A3).alloc A4).alloc A5).alloc A6).alloc A7).alloc A8).alloc A9).alloc A10).alloc A11).alloc A12).alloc A13).alloc A14).alloc A15).alloc T).heap[w.heap.size + 1 + 1 + 1 + 1 + 1]? = some A5 ∧ (((((((((((((((((w.alloc A0).alloc A1).alloc A2).alloc A3).alloc A4).alloc A5).alloc A6).alloc A7).alloc A8).alloc A9).alloc A10).alloc A11).alloc A12).alloc A13).alloc A14).alloc A15).alloc T).heap[w.heap.size + 1 + 1 + 1 + 1 + 1 + 1]? = some A6 ∧ (((((((((((((((((w.alloc A0).alloc A1).alloc A2).alloc A3).alloc A4).alloc A5).alloc A6).alloc A7).alloc A8).alloc A9).alloc A10).alloc A11).alloc A12).alloc A13).alloc A14).alloc A15).alloc T).heap[w.heap.size + 1 + 1 + 1 + 1 + 1 + 1 + 1]? = some A7 ∧ (((((((((((((((((w.alloc A0).alloc A1).alloc A2).alloc A3).alloc A4).alloc A5).alloc A6).alloc A7).alloc A8).alloc A9).alloc A10).alloc A11).alloc A12).alloc A13).alloc A14).alloc A15).alloc T).heap[w.heap.size + 1 + 1 + 1 + 1 + 1 + 1 + 1 + 1]? = some A8 ∧ (((((((((((((((((w.alloc A0).alloc A1).alloc A2).alloc A3).alloc A4).alloc A5).alloc A6).alloc A7).alloc A8).alloc A9).alloc A10).alloc A11).alloc A12).alloc A13).alloc A14).alloc A15).alloc T).heap[w.heap.size + 1 + 1 + 1 + 1 + 1 + 1 + 1 + 1 + 1]? = some A9 ∧ (((((((((((((((((w.alloc A0).alloc A1).alloc A2).alloc A3).alloc A4).alloc A5).alloc A6).alloc A7).alloc A8).alloc A9).alloc A10).alloc A11).alloc A12).alloc A13).alloc A14).alloc A15).alloc T).heap[w.heap.size + 1 + 1 + 1 + 1 + 1 + 1 + 1 + 1 + 1 + 1]? = some A10 ∧ (((((((((((((((((w.alloc A0).alloc A1).alloc A2).alloc A3).alloc A4).alloc A5).alloc A6).alloc A7).alloc A8).alloc A9).alloc A10).alloc A11).alloc A12).alloc A13).alloc A14).alloc A15).alloc T).heap[w.heap.size + 1 + 1 + 1 + 1 + 1 + 1 + 1 + 1 + 1 + 1 + 1]? = some A11 ∧ (((((((((((((((((w.alloc A0).alloc A1).alloc A2).alloc A3).alloc A4).alloc A5).alloc A6).alloc A7).alloc A8).alloc A9).alloc A10).alloc A11).alloc A12).alloc A13).alloc A14).alloc A15).alloc T).heap[w.heap.size + 1 + 1 + 1 + 1 + 1 + 1 + 1 + 1 + 1 + 1 + 1 + 1]? = some A12 ∧ (((((((((((((((((w.alloc A0).alloc A1).alloc A2).alloc A3).alloc A4).alloc A5).alloc A6).alloc A7).alloc A8).alloc A9).alloc A10).alloc A11).alloc A12).alloc A13).alloc A14).alloc A15).alloc T).heap[w.heap.size + 1 + 1 + 1 + 1 + 1 + 1 + 1 + 1 + 1 + 1 + 1 + 1 + 1]? = some A13 ∧ (((((((((((((((((w.alloc A0).alloc A1).alloc A2).alloc A3).alloc A4).alloc A5).alloc A6).alloc A7).alloc A8).alloc A9).alloc A10).alloc A11).alloc A12).alloc A13).alloc A14).alloc A15).alloc T).heap[w.heap.size + 1 + 1 + 1 + 1 + 1 + 1 + 1 + 1 + 1 + 1 + 1 + 1 + 1 + 1]? = some A14 ∧ (((((((((((((((((w.alloc A0).alloc A1).alloc A2).alloc A3).alloc A4).alloc A5).alloc A6).alloc A7).alloc A8).alloc A9).alloc A10).alloc A11).alloc A12).alloc A13).alloc A14).alloc A15).alloc T).heap[w.heap.size + 1 + 1 + 1 + 1 + 1 + 1 + 1 + 1 + 1 + 1 + 1 + 1 + 1 + 1 + 1]? = some A15 ∧ (((((((((((((((((w.alloc A0).alloc A1).alloc A2).alloc A3).alloc A4).alloc A5).alloc A6).alloc A7).alloc A8).alloc A9).alloc A10).alloc A11).alloc A12).alloc A13).alloc A14).alloc A15).alloc T).heap[w.heap.size + 1 + 1 + 1 + 1 + 1 + 1 + 1 + 1 + 1 + 1 + 1 + 1 + 1 + 1 + 1 + 1]? = some T
    ∧ Below w.heap.size w (((((((((((((((((w.alloc A0).alloc A1).alloc A2).alloc A3).alloc A4).alloc A5).alloc A6).alloc A7).alloc A8).alloc A9).alloc A10).alloc A11).alloc A12).alloc A13).alloc A14).alloc A15).alloc T) := by
  refine ⟨?_, ?_, ?_, ?_, ?_, ?_, ?_, ?_, ?_, ?_, ?_, ?_, ?_, ?_, ?_, ?_, ?_, ?_⟩
  · rw [heap_alloc_get, if_neg (by simp only [size_alloc']; omega)]; rw [heap_alloc_get, if_neg (by simp only [size_alloc']; omega)]; rw [heap_alloc_get, if_neg (by simp only [size_alloc']; omega)]; rw [heap_alloc_get, if_neg (by simp only [size_alloc']; omega)]; rw [heap_alloc_get, if_neg (by simp only [size_alloc']; omega)]; rw [heap_alloc_get, if_neg (by simp only [size_alloc']; omega)]; rw [heap_alloc_get, if_neg (by simp only [size_alloc']; omega)]; rw [heap_alloc_get, if_neg (by simp only [size_alloc']; omega)]; rw [heap_alloc_get, if_neg (by simp only [size_alloc']; omega)]; rw [heap_alloc_get, if_neg (by simp only [size_alloc']; omega)]; rw [heap_alloc_get, if_neg (by simp only [size_alloc']; omega)]; rw [heap_alloc_get, if_neg (by simp only [size_alloc']; omega)]; rw [heap_alloc_get, if_neg (by simp only [size_alloc']; omega)]; rw [heap_alloc_get, if_neg (by simp only [size_alloc']; omega)]; rw [heap_alloc_get, if_neg (by simp only [size_alloc']; omega)]; rw [heap_alloc_get, if_neg (by simp only [size_alloc']; omega)]; rw [heap_alloc_get, if_pos rfl]
  · rw [heap_alloc_get, if_neg (by simp only [size_alloc']; omega)]; rw [heap_alloc_get, if_neg (by simp only [size_alloc']; omega)]; rw [heap_alloc_get, if_neg (by simp only [size_alloc']; omega)]; rw [heap_alloc_get, if_neg (by simp only [size_alloc']; omega)]; rw [heap_alloc_get, if_neg (by simp only [size_alloc']; omega)]; rw [heap_alloc_get, if_neg (by simp only [size_alloc']; omega)]; rw [heap_alloc_get, if_neg (by simp only [size_alloc']; omega)]; rw [heap_alloc_get, if_neg (by simp only [size_alloc']; omega)]; rw [heap_alloc_get, if_neg (by simp only [size_alloc']; omega)]; rw [heap_alloc_get, if_neg (by simp only [size_alloc']; omega)]; rw [heap_alloc_get, if_neg (by simp only [size_alloc']; omega)]; rw [heap_alloc_get, if_neg (by simp only [size_alloc']; omega)]; rw [heap_alloc_get, if_neg (by simp only [size_alloc']; omega)]; rw [heap_alloc_get, if_neg (by simp only [size_alloc']; omega)]; rw [heap_alloc_get, if_neg (by simp only [size_alloc']; omega)]; rw [heap_alloc_get, if_pos (by simp only [size_alloc'])]
  · rw [heap_alloc_get, if_neg (by simp only [size_alloc']; omega)]; rw [heap_alloc_get, if_neg (by simp only [size_alloc']; omega)]; rw [heap_alloc_get, if_neg (by simp only [size_alloc']; omega)]; rw [heap_alloc_get, if_neg (by simp only [size_alloc']; omega)]; rw [heap_alloc_get, if_neg (by simp only [size_alloc']; omega)]; rw [heap_alloc_get, if_neg (by simp only [size_alloc']; omega)]; rw [heap_alloc_get, if_neg (by simp only [size_alloc']; omega)]; rw [heap_alloc_get, if_neg (by simp only [size_alloc']; omega)]; rw [heap_alloc_get, if_neg (by simp only [size_alloc']; omega)]; rw [heap_alloc_get, if_neg (by simp only [size_alloc']; omega)]; rw [heap_alloc_get, if_neg (by simp only [size_alloc']; omega)]; rw [heap_alloc_get, if_neg (by simp only [size_alloc']; omega)]; rw [heap_alloc_get, if_neg (by simp only [size_alloc']; omega)]; rw [heap_alloc_get, if_neg (by simp only [size_alloc']; omega)]; rw [heap_alloc_get, if_pos (by simp only [size_alloc'])]
  · rw [heap_alloc_get, if_neg (by simp only [size_alloc']; omega)]; rw [heap_alloc_get, if_neg (by simp only [size_alloc']; omega)]; rw [heap_alloc_get, if_neg (by simp only [size_alloc']; omega)]; rw [heap_alloc_get, if_neg (by simp only [size_alloc']; omega)]; rw [heap_alloc_get, if_neg (by simp only [size_alloc']; omega)]; rw [heap_alloc_get, if_neg (by simp only [size_alloc']; omega)]; rw [heap_alloc_get, if_neg (by simp only [size_alloc']; omega)]; rw [heap_alloc_get, if_neg (by simp only [size_alloc']; omega)]; rw [heap_alloc_get, if_neg (by simp only [size_alloc']; omega)]; rw [heap_alloc_get, if_neg (by simp only [size_alloc']; omega)]; rw [heap_alloc_get, if_neg (by simp only [size_alloc']; omega)]; rw [heap_alloc_get, if_neg (by simp only [size_alloc']; omega)]; rw [heap_alloc_get, if_neg (by simp only [size_alloc']; omega)]; rw [heap_alloc_get, if_pos (by simp only [size_alloc'])]
  · rw [heap_alloc_get, if_neg (by simp only [size_alloc']; omega)]; rw [heap_alloc_get, if_neg (by simp only [size_alloc']; omega)]; rw [heap_alloc_get, if_neg (by simp only [size_alloc']; omega)]; rw [heap_alloc_get, if_neg (by simp only [size_alloc']; omega)]; rw [heap_alloc_get, if_neg (by simp only [size_alloc']; omega)]; rw [heap_alloc_get, if_neg (by simp only [size_alloc']; omega)]; rw [heap_alloc_get, if_neg (by simp only [size_alloc']; omega)]; rw [heap_alloc_get, if_neg (by simp only [size_alloc']; omega)]; rw [heap_alloc_get, if_neg (by simp only [size_alloc']; omega)]; rw [heap_alloc_get, if_neg (by simp only [size_alloc']; omega)]; rw [heap_alloc_get, if_neg (by simp only [size_alloc']; omega)]; rw [heap_alloc_get, if_neg (by simp only [size_alloc']; omega)]; rw [heap_alloc_get, if_pos (by simp only [size_alloc'])]
  · rw [heap_alloc_get, if_neg (by simp only [size_alloc']; omega)]; rw [heap_alloc_get, if_neg (by simp only [size_alloc']; omega)]; rw [heap_alloc_get, if_neg (by simp only [size_alloc']; omega)]; rw [heap_alloc_get, if_neg (by simp only [size_alloc']; omega)]; rw [heap_alloc_get, if_neg (by simp only [size_alloc']; omega)]; rw [heap_alloc_get, if_neg (by simp only [size_alloc']; omega)]; rw [heap_alloc_get, if_neg (by simp only [size_alloc']; omega)]; rw [heap_alloc_get, if_neg (by simp only [size_alloc']; omega)]; rw [heap_alloc_get, if_neg (by simp only [size_alloc']; omega)]; rw [heap_alloc_get, if_neg (by simp only [size_alloc']; omega)]; rw [heap_alloc_get, if_neg (by simp only [size_alloc']; omega)]; rw [heap_alloc_get, if_pos (by simp only [size_alloc'])]
  · rw [heap_alloc_get, if_neg (by simp only [size_alloc']; omega)]; rw [heap_alloc_get, if_neg (by simp only [size_alloc']; omega)]; rw [heap_alloc_get, if_neg (by simp only [size_alloc']; omega)]; rw [heap_alloc_get, if_neg (by simp only [size_alloc']; omega)]; rw [heap_alloc_get, if_neg (by simp only [size_alloc']; omega)]; rw [heap_alloc_get, if_neg (by simp only [size_alloc']; omega)]; rw [heap_alloc_get, if_neg (by simp only [size_alloc']; omega)]; rw [heap_alloc_get, if_neg (by simp only [size_alloc']; omega)]; rw [heap_alloc_get, if_neg (by simp only [size_alloc']; omega)]; rw [heap_alloc_get, if_neg (by simp only [size_alloc']; omega)]; rw [heap_alloc_get, if_pos (by simp only [size_alloc'])]
  · rw [heap_alloc_get, if_neg (by simp only [size_alloc']; omega)]; rw [heap_alloc_get, if_neg (by simp only [size_alloc']; omega)]; rw [heap_alloc_get, if_neg (by simp only [size_alloc']; omega)]; rw [heap_alloc_get, if_neg (by simp only [size_alloc']; omega)]; rw [heap_alloc_get, if_neg (by simp only [size_alloc']; omega)]; rw [heap_alloc_get, if_neg (by simp only [size_alloc']; omega)]; rw [heap_alloc_get, if_neg (by simp only [size_alloc']; omega)]; rw [heap_alloc_get, if_neg (by simp only [size_alloc']; omega)]; rw [heap_alloc_get, if_neg (by simp only [size_alloc']; omega)]; rw [heap_alloc_get, if_pos (by simp only [size_alloc'])]
  · rw [heap_alloc_get, if_neg (by simp only [size_alloc']; omega)]; rw [heap_alloc_get, if_neg (by simp only [size_alloc']; omega)]; rw [heap_alloc_get, if_neg (by simp only [size_alloc']; omega)]; rw [heap_alloc_get, if_neg (by simp only [size_alloc']; omega)]; rw [heap_alloc_get, if_neg (by simp only [size_alloc']; omega)]; rw [heap_alloc_get, if_neg (by simp only [size_alloc']; omega)]; rw [heap_alloc_get, if_neg (by simp only [size_alloc']; omega)]; rw [heap_alloc_get, if_neg (by simp only [size_alloc']; omega)]; rw [heap_alloc_get, if_pos (by simp only [size_alloc'])]
  · rw [heap_alloc_get, if_neg (by simp only [size_alloc']; omega)]; rw [heap_alloc_get, if_neg (by simp only [size_alloc']; omega)]; rw [heap_alloc_get, if_neg (by simp only [size_alloc']; omega)]; rw [heap_alloc_get, if_neg (by simp only [size_alloc']; omega)]; rw [heap_alloc_get, if_neg (by simp only [size_alloc']; omega)]; rw [heap_alloc_get, if_neg (by simp only [size_alloc']; omega)]; rw [heap_alloc_get, if_neg (by simp only [size_alloc']; omega)]; rw [heap_alloc_get, if_pos (by simp only [size_alloc'])]
  · rw [heap_alloc_get, if_neg (by simp only [size_alloc']; omega)]; rw [heap_alloc_get, if_neg (by simp only [size_alloc']; omega)]; rw [heap_alloc_get, if_neg (by simp only [size_alloc']; omega)]; rw [heap_alloc_get, if_neg (by simp only [size_alloc']; omega)]; rw [heap_alloc_get, if_neg (by simp only [size_alloc']; omega)]; rw [heap_alloc_get, if_neg (by simp only [size_alloc']; omega)]; rw [heap_alloc_get, if_pos (by simp only [size_alloc'])]
  · rw [heap_alloc_get, if_neg (by simp only [size_alloc']; omega)]; rw [heap_alloc_get, if_neg (by simp only [size_alloc']; omega)]; rw [heap_alloc_get, if_neg (by simp only [size_alloc']; omega)]; rw [heap_alloc_get, if_neg (by simp only [size_alloc']; omega)]; rw [heap_alloc_get, if_neg (by simp only [size_alloc']; omega)]; rw [heap_alloc_get, if_pos (by simp only [size_alloc'])]
  · rw [heap_alloc_get, if_neg (by simp only [size_alloc']; omega)]; rw [heap_alloc_get, if_neg (by simp only [size_alloc']; omega)]; rw [heap_alloc_get, if_neg (by simp only [size_alloc']; omega)]; rw [heap_alloc_get, if_neg (by simp only [size_alloc']; omega)]; rw [heap_alloc_get, if_pos (by simp only [size_alloc'])]
  · rw [heap_alloc_get, if_neg (by simp only [size_alloc']; omega)]; rw [heap_alloc_get, if_neg (by simp only [size_alloc']; omega)]; rw [heap_alloc_get, if_neg (by simp only [size_alloc']; omega)]; rw [heap_alloc_get, if_pos (by simp only [size_alloc'])]
  · rw [heap_alloc_get, if_neg (by simp only [size_alloc']; omega)]; rw [heap_alloc_get, if_neg (by simp only [size_alloc']; omega)]; rw [heap_alloc_get, if_pos (by simp only [size_alloc'])]
  · rw [heap_alloc_get, if_neg (by simp only [size_alloc']; omega)]; rw [heap_alloc_get, if_pos (by simp only [size_alloc'])]
  · rw [heap_alloc_get, if_pos (by simp only [size_alloc'])]
  have b0 := Below.refl w.heap.size w
  have b1 := b0.alloc b0.size A0
  have b2 := b1.alloc b1.size A1
  have b3 := b2.alloc b2.size A2
  have b4 := b3.alloc b3.size A3
  have b5 := b4.alloc b4.size A4
  have b6 := b5.alloc b5.size A5
  have b7 := b6.alloc b6.size A6
  have b8 := b7.alloc b7.size A7
  have b9 := b8.alloc b8.size A8
  have b10 := b9.alloc b9.size A9
  have b11 := b10.alloc b10.size A10
  have b12 := b11.alloc b11.size A11
  have b13 := b12.alloc b12.size A12
  have b14 := b13.alloc b13.size A13
  have b15 := b14.alloc b14.size A14
  have b16 := b15.alloc b15.size A15
  have b17 := b16.alloc b16.size T
  exact b17
def refS : Nat → Array Value
  | 0 => S0
  | 1 => S1
  | 2 => S2
  | 3 => S3
  | 4 => S4
  | 5 => S5
  | 6 => S6
  | 7 => S7
  | 8 => S8
  | 9 => S9
  | 10 => S10
  | 11 => S11
  | 12 => S12
  | 13 => S13
  | 14 => S14
  | _ => S15
set_option maxRecDepth 100000 in
set_option maxHeartbeats 8000000 in
theorem refRow (e : Int) (h0 : 0 ≤ e) (h1 : e ≤ 15) (w : World) : Calls Try.prog 39 #[.int .i64 e] w (StrsR (refS e.toNat) w) := by
  go_enter Try.func39, Try.ntmps39
  go_upto_region 1 with fail
  go_cut [3] from 4 to 21 (fun v wx => ∃ gt g0 g1 g2 g3 g4 g5 g6 g7 g8 g9 g10 g11 g12 g13 g14 g15, v = .slice (some ⟨gt, 0, none⟩) 16 16 ∧ RowsAt wx gt g0 g1 g2 g3 g4 g5 g6 g7 g8 g9 g10 g11 g12 g13 g14 g15 ∧ Below w.heap.size w wx)
  case first =>
    clear h0 h1
    go_wp2
    go_meet
    obtain ⟨f0, f1, f2, f3, f4, f5, f6, f7, f8, f9, f10, f11, f12, f13, f14, f15, ft, hb⟩ := chain16 w (.cells S0 9) (.cells S1 9) (.cells S2 9) (.cells S3 9) (.cells S4 9) (.cells S5 9) (.cells S6 9) (.cells S7 9) (.cells S8 9) (.cells S9 9) (.cells S10 9) (.cells S11 9) (.cells S12 9) (.cells S13 9) (.cells S14 9) (.cells S15 9) (.cells #[.slice (some ⟨w.heap.size, 0, none⟩) 10 10, .slice (some ⟨w.heap.size + 1, 0, none⟩) 10 10, .slice (some ⟨w.heap.size + 1 + 1, 0, none⟩) 10 10, .slice (some ⟨w.heap.size + 1 + 1 + 1, 0, none⟩) 10 10, .slice (some ⟨w.heap.size + 1 + 1 + 1 + 1, 0, none⟩) 10 10, .slice (some ⟨w.heap.size + 1 + 1 + 1 + 1 + 1, 0, none⟩) 10 10, .slice (some ⟨w.heap.size + 1 + 1 + 1 + 1 + 1 + 1, 0, none⟩) 10 10, .slice (some ⟨w.heap.size + 1 + 1 + 1 + 1 + 1 + 1 + 1, 0, none⟩) 10 10, .slice (some ⟨w.heap.size + 1 + 1 + 1 + 1 + 1 + 1 + 1 + 1, 0, none⟩) 10 10, .slice (some ⟨w.heap.size + 1 + 1 + 1 + 1 + 1 + 1 + 1 + 1 + 1, 0, none⟩) 10 10, .slice (some ⟨w.heap.size + 1 + 1 + 1 + 1 + 1 + 1 + 1 + 1 + 1 + 1, 0, none⟩) 10 10, .slice (some ⟨w.heap.size + 1 + 1 + 1 + 1 + 1 + 1 + 1 + 1 + 1 + 1 + 1, 0, none⟩) 10 10, .slice (some ⟨w.heap.size + 1 + 1 + 1 + 1 + 1 + 1 + 1 + 1 + 1 + 1 + 1 + 1, 0, none⟩) 10 10, .slice (some ⟨w.heap.size + 1 + 1 + 1 + 1 + 1 + 1 + 1 + 1 + 1 + 1 + 1 + 1 + 1, 0, none⟩) 10 10, .slice (some ⟨w.heap.size + 1 + 1 + 1 + 1 + 1 + 1 + 1 + 1 + 1 + 1 + 1 + 1 + 1 + 1, 0, none⟩) 10 10, .slice (some ⟨w.heap.size + 1 + 1 + 1 + 1 + 1 + 1 + 1 + 1 + 1 + 1 + 1 + 1 + 1 + 1 + 1, 0, none⟩) 10 10] 64)
    exact ⟨_, _, _, _, _, _, _, _, _, _, _, _, _, _, _, _, _, rfl, ⟨ft, f0, f1, f2, f3, f4, f5, f6, f7, f8, f9, f10, f11, f12, f13, f14, f15⟩, hb⟩
  case rest =>
    obtain ⟨gt, g0, g1, g2, g3, g4, g5, g6, g7, g8, g9, g10, g11, g12, g13, g14, g15, rfl, hR, hB⟩ := hcut
    rcases (show e = 0 ∨ e = 1 ∨ e = 2 ∨ e = 3 ∨ e = 4 ∨ e = 5 ∨ e = 6 ∨ e = 7 ∨ e = 8 ∨ e = 9 ∨ e = 10 ∨ e = 11 ∨ e = 12 ∨ e = 13 ∨ e = 14 ∨ e = 15 by omega) with rfl | rfl | rfl | rfl | rfl | rfl | rfl | rfl | rfl | rfl | rfl | rfl | rfl | rfl | rfl | rfl
    · have fin : StrsR (refS (0 : Int).toNat) w (.returned (.slice (some ⟨g0, 0, none⟩) 10 10)) wc := ⟨g0, rfl, hR.r0, hB⟩
      have c := (cell_of_row _ _ 0 _ _ _ hR.t).trans rfl
      clear hR hB h0 h1
      go_wp2
      go_ret
      exact fin
    · have fin : StrsR (refS (1 : Int).toNat) w (.returned (.slice (some ⟨g1, 0, none⟩) 10 10)) wc := ⟨g1, rfl, hR.r1, hB⟩
      have c := (cell_of_row _ _ 1 _ _ _ hR.t).trans rfl
      clear hR hB h0 h1
      go_wp2
      go_ret
      exact fin
    · have fin : StrsR (refS (2 : Int).toNat) w (.returned (.slice (some ⟨g2, 0, none⟩) 10 10)) wc := ⟨g2, rfl, hR.r2, hB⟩
      have c := (cell_of_row _ _ 2 _ _ _ hR.t).trans rfl
      clear hR hB h0 h1
      go_wp2
      go_ret
      exact fin
    · have fin : StrsR (refS (3 : Int).toNat) w (.returned (.slice (some ⟨g3, 0, none⟩) 10 10)) wc := ⟨g3, rfl, hR.r3, hB⟩
      have c := (cell_of_row _ _ 3 _ _ _ hR.t).trans rfl
      clear hR hB h0 h1
      go_wp2
      go_ret
      exact fin
    · have fin : StrsR (refS (4 : Int).toNat) w (.returned (.slice (some ⟨g4, 0, none⟩) 10 10)) wc := ⟨g4, rfl, hR.r4, hB⟩
      have c := (cell_of_row _ _ 4 _ _ _ hR.t).trans rfl
      clear hR hB h0 h1
      go_wp2
      go_ret
      exact fin
    · have fin : StrsR (refS (5 : Int).toNat) w (.returned (.slice (some ⟨g5, 0, none⟩) 10 10)) wc := ⟨g5, rfl, hR.r5, hB⟩
      have c := (cell_of_row _ _ 5 _ _ _ hR.t).trans rfl
      clear hR hB h0 h1
      go_wp2
      go_ret
      exact fin
    · have fin : StrsR (refS (6 : Int).toNat) w (.returned (.slice (some ⟨g6, 0, none⟩) 10 10)) wc := ⟨g6, rfl, hR.r6, hB⟩
      have c := (cell_of_row _ _ 6 _ _ _ hR.t).trans rfl
      clear hR hB h0 h1
      go_wp2
      go_ret
      exact fin
    · have fin : StrsR (refS (7 : Int).toNat) w (.returned (.slice (some ⟨g7, 0, none⟩) 10 10)) wc := ⟨g7, rfl, hR.r7, hB⟩
      have c := (cell_of_row _ _ 7 _ _ _ hR.t).trans rfl
      clear hR hB h0 h1
      go_wp2
      go_ret
      exact fin
    · have fin : StrsR (refS (8 : Int).toNat) w (.returned (.slice (some ⟨g8, 0, none⟩) 10 10)) wc := ⟨g8, rfl, hR.r8, hB⟩
      have c := (cell_of_row _ _ 8 _ _ _ hR.t).trans rfl
      clear hR hB h0 h1
      go_wp2
      go_ret
      exact fin
    · have fin : StrsR (refS (9 : Int).toNat) w (.returned (.slice (some ⟨g9, 0, none⟩) 10 10)) wc := ⟨g9, rfl, hR.r9, hB⟩
      have c := (cell_of_row _ _ 9 _ _ _ hR.t).trans rfl
      clear hR hB h0 h1
      go_wp2
      go_ret
      exact fin
    · have fin : StrsR (refS (10 : Int).toNat) w (.returned (.slice (some ⟨g10, 0, none⟩) 10 10)) wc := ⟨g10, rfl, hR.r10, hB⟩
      have c := (cell_of_row _ _ 10 _ _ _ hR.t).trans rfl
      clear hR hB h0 h1
      go_wp2
      go_ret
      exact fin
    · have fin : StrsR (refS (11 : Int).toNat) w (.returned (.slice (some ⟨g11, 0, none⟩) 10 10)) wc := ⟨g11, rfl, hR.r11, hB⟩
      have c := (cell_of_row _ _ 11 _ _ _ hR.t).trans rfl
      clear hR hB h0 h1
      go_wp2
      go_ret
      exact fin
    · have fin : StrsR (refS (12 : Int).toNat) w (.returned (.slice (some ⟨g12, 0, none⟩) 10 10)) wc := ⟨g12, rfl, hR.r12, hB⟩
      have c := (cell_of_row _ _ 12 _ _ _ hR.t).trans rfl
      clear hR hB h0 h1
      go_wp2
      go_ret
      exact fin
    · have fin : StrsR (refS (13 : Int).toNat) w (.returned (.slice (some ⟨g13, 0, none⟩) 10 10)) wc := ⟨g13, rfl, hR.r13, hB⟩
      have c := (cell_of_row _ _ 13 _ _ _ hR.t).trans rfl
      clear hR hB h0 h1
      go_wp2
      go_ret
      exact fin
    · have fin : StrsR (refS (14 : Int).toNat) w (.returned (.slice (some ⟨g14, 0, none⟩) 10 10)) wc := ⟨g14, rfl, hR.r14, hB⟩
      have c := (cell_of_row _ _ 14 _ _ _ hR.t).trans rfl
      clear hR hB h0 h1
      go_wp2
      go_ret
      exact fin
    · have fin : StrsR (refS (15 : Int).toNat) w (.returned (.slice (some ⟨g15, 0, none⟩) 10 10)) wc := ⟨g15, rfl, hR.r15, hB⟩
      have c := (cell_of_row _ _ 15 _ _ _ hR.t).trans rfl
      clear hR hB h0 h1
      go_wp2
      go_ret
      exact fin
end Go.Proofs.Ytjgndagejogfnaa.F
