/- Keys told apart (layer 14, entry): the layer's Compare. -/
import Derived.Test.YtmckngkmlhemoaaE
namespace Go.Proofs.Ytmckngkmlhemoaa
open Go.RowKit
def u8s (xs : List Int) : Array Value := (xs.map fun x => Value.int .u8 x).toArray
set_option maxRecDepth 100000 in
theorem compare14 (xs ys : List Int) (w : World) (hx : xs.length = 40) (hy : ys.length = 40) :
    Calls Try.prog 14 #[.agg (u8s xs), .agg (u8s ys)] w fun e w' => e = .returned (.int .i64 (Lib.compareBytes (Lib.bytesOf xs) (Lib.bytesOf ys))) ∧ Below w.heap.size w w' := by
  have HX := Lib.hid hx
  have HY := Lib.hid hy
  clear hx hy
  obtain ⟨a, ha⟩ : ∃ a, a = u8s xs := ⟨_, rfl⟩
  obtain ⟨b, hb⟩ : ∃ b, b = u8s ys := ⟨_, rfl⟩
  rw [← ha, ← hb]
  have HA := Lib.hid ha
  have HB := Lib.hid hb
  clear ha hb
  go_enter Try.func14, Try.ntmps14
  go_wp2_with fail
  obtain ⟨w2, hw2⟩ : ∃ w2, w2 = (w.alloc (.cells a 32)).alloc (.cells b 32) := ⟨_, rfl⟩
  rw [← hw2]
  have HC : Hid (∀ m, Calls Try.prog 25 #[.slice (some ⟨w.heap.size, 0, none⟩) 40 40, .slice (some ⟨w.heap.size + 1, 0, none⟩) 40 40] (w2.drewN m) fun e w' => e = .returned (.int .i64 (Lib.compareBytes (Lib.bytesOf xs) (Lib.bytesOf ys))) ∧ w2.drewN m = w') := Lib.hid fun m => by
    have h1 : w2.heap[w.heap.size]? = some (.cells a 32) := by rw [hw2]; exact heap_old (heap_new w _)
    have h2 : w2.heap[w.heap.size + 1]? = some (.cells b 32) := by rw [hw2]; exact heap_new_at _ (by simp)
    have h := compare25 xs ys ⟨w.heap.size, 0, none⟩ ⟨w.heap.size + 1, 0, none⟩ 40 40 (w2.drewN m) (fun j x hj => by
      have := block_cell h1 j (.int .u8 x) (by rw [HA.out]; simp [u8s, hj])
      rw [Go.WideShapes.add_plain, Nat.zero_add]; exact this) (fun j x hj => by
      have := block_cell h2 j (.int .u8 x) (by rw [HB.out]; simp [u8s, hj])
      rw [Go.WideShapes.add_plain, Nat.zero_add]; exact this)
    rw [HX.out, HY.out] at h
    exact h
  have HW : Hid (Below w.heap.size w w2) := Lib.hid (by rw [hw2]; exact ((Below.refl _ w).alloc (Nat.le_refl _) _).alloc (by simp) _)
  clear hw2
  go_quiet ((go_at_call 25; exact quiet_left (HC.out _)))
  go_wp2_with fail
  go_ret
  exact ⟨rfl, below_drewN HW.out _⟩
end Go.Proofs.Ytmckngkmlhemoaa
