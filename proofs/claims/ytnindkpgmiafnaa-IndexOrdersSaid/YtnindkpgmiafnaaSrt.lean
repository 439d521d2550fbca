/- A row of structs that the call owns, handed to the library's sort: from the sort's words to ownsRow. -/
import Derived.Test.YtnindkpgmiafnaaSrow
import Derived.Shelf.SlSortCmp.NoneTotal
namespace Go.Proofs.Ytnindkpgmiafnaa
open Go.RowKit Go.Sort
theorem cells_new (w : World) (l : List Value) (t : TypeId) (j : Nat) (u : Value) (h : l[j]? = some u) : (w.alloc (.cells l.toArray t)).cell? ((⟨w.heap.size, 0, none⟩ : Addr).add j) = some u := by
  have : (⟨w.heap.size, 0, none⟩ : Addr).add j = ⟨w.heap.size, j, none⟩ := by unfold Addr.add; simp; exact fun h => h.symm
  rw [this]
  exact block_cell (heap_new w _) j u (by simpa using h)
section
variable {α : Type} [Inhabited α]
theorem flatK_flatS {enc : α → List Value} {s n : Nat} (hs : ∀ x, (enc x).length = s) {d : Array α} (hn : d.size = n) {j : Nat} (hj : j < n * s) : (flatS (fun i => enc d[i]!) n)[j]? = some (flatK enc s d)[j]! := by
  have hs0 : 0 < s := by
    rcases Nat.eq_zero_or_pos s with h | h
    · rw [h, Nat.mul_zero] at hj; omega
    · exact h
  rw [get_flatK enc s d j (by rw [hn]; exact hj)]
  have hq : j / s < n := (Nat.div_lt_iff_lt_mul hs0).2 hj
  have hr : j % s < s := Nat.mod_lt _ hs0
  have e : j = (j / s) * s + j % s := by rw [Nat.mul_comm]; exact (Nat.div_add_mod j s).symm
  have h := flatS_at (F := fun i => enc d[i]!) (fun i => hs _) hr hq
  rw [← e] at h
  rw [h]
  have hl : j % s < (enc d[j / s]!).length := by rw [hs]; exact hr
  rw [List.getElem?_eq_getElem hl, getElem!_pos (enc d[j / s]!) (j % s) hl]
theorem holdsK_row {w : World} {base g n c s : Nat} {e : TypeId} {enc : α → List Value} {d : Array α} (hs : ∀ x, (enc x).length = s) (hn : d.size = n) (h : w.ownsRow base e s (.slice (some ⟨g, 0, none⟩) n c) n (flatS (fun i => enc d[i]!) n)) : HoldsK enc s w g 0 d := by
  intro j hj
  rw [size_flatK, hn] at hj
  rw [Nat.zero_add]
  exact ⟨(h.cellAt j hj).trans (flatK_flatS hs hn hj), h.frozenAt j⟩
theorem sorted_row {w : World} {base g n c s m : Nat} {e : TypeId} {enc : α → List Value} {d d' : Array α} {os : Array Obj} (hs : ∀ x, (enc x).length = s) (hn : d'.size = n) (h : w.ownsRow base e s (.slice (some ⟨g, 0, none⟩) n c) n (flatS (fun i => enc d[i]!) n)) :
    (sortWorldK enc s w g 0 m d' os).ownsRow base e s (.slice (some ⟨g, 0, none⟩) n c) n (flatS (fun i => enc d'[i]!) n) ∧ Keeps (fun x => x = g) w (sortWorldK enc s w g 0 m d' os) := by
  have hw : Wide s (fun i => enc d'[i]!) := fun i => hs _
  rcases h.2 with ⟨h1, _⟩ | ⟨g2, cap2, cur2, h1, h2, h3, h4, h5, h6, h7⟩
  · simp at h1
  · injection h1 with h1 h8 h9
    injection h1 with h1
    injection h1 with h1
    subst h1 h9
    have hg := (Array.getElem?_eq_some_iff.1 h3).1
    have hheap : (sortWorldK enc s w g 0 m d' os).heap = w.heap.modify g (onCells (putCells id 0 (flatK enc s d'))) ++ os := rfl
    have hat : (sortWorldK enc s w g 0 m d' os).heap[g]? = some (.cells (putCells id 0 (flatK enc s d') cur2) e (0, 0)) := by
      rw [hheap, Array.getElem?_append_left (by simpa using hg), Array.getElem?_modify, if_pos rfl, h3]; rfl
    have hsz : (putCells id 0 (flatK enc s d') cur2).size = cur2.size := by simp [putCells]
    refine ⟨⟨flatS_len hw n, .inr ⟨g, c, _, rfl, h2, hat, h4, h5, by rw [hsz, h6], ?_⟩⟩, rfl, rfl, rfl, ?_, fun k hk hne => ?_⟩
    · apply List.ext_getElem?
      intro k
      rw [List.getElem?_take]
      by_cases hk : k < n * s
      · have hkc : k < cur2.size := by
          rw [h6]; exact Nat.lt_of_lt_of_le hk (Nat.mul_le_mul_right _ h4)
        rw [if_pos hk, flatK_flatS hs hn hk, Array.getElem?_toList, putCells, Array.getElem?_mapIdx, Array.getElem?_eq_getElem hkc, Option.map_some, if_pos ⟨Nat.zero_le _, by rw [size_flatK, hn, Nat.zero_add]; exact hk⟩]
        rfl
      · rw [if_neg hk, List.getElem?_eq_none (by rw [flatS_len hw]; omega)]
    · rw [hheap]; simp
    · rw [hheap, Array.getElem?_append_left (by simpa using hk), Array.getElem?_modify, if_neg (fun e => hne e.symm)]
end
end Go.Proofs.Ytnindkpgmiafnaa
