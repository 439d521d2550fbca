/- Contracts of layer 14's document (entry): what is a right place, a right slice. -/
import Derived.Test.YtmckngkmlhemoaaA
namespace Go.Proofs.Ytmckngkmlhemoaa
open Go.RowKit
def placeB (a s u r : Int) (refs : Bool) : Bool := inB a 0 262144 && inB s 1 1024 && inB u 1 16 && (if refs then inB r 1 2147483647 else r == 0)
set_option maxHeartbeats 8000000 in
theorem place26 (a s u r : Int) (refs : Bool) (w : World) : Calls Try.prog 26 #[.agg #[.int .i64 a, .int .i64 s, .int .i64 u, .int .i64 r], .bool refs] w fun e w' => e = .returned (.bool (placeB a s u r refs)) ∧ Below w.heap.size w w' := by
  have HP : Hid (placeB a s u r refs = (inB a 0 262144 && inB s 1 1024 && inB u 1 16 && (if refs then inB r 1 2147483647 else r == 0))) := Lib.hid rfl
  cases refs
  all_goals
    cases h1 : inB a 0 262144 <;> cases h2 : inB s 1 1024 <;> cases h3 : inB u 1 16 <;> cases h4 : inB r 1 2147483647 <;> cases h5 : (r == 0)
    all_goals
      go_enter Try.func26, Try.ntmps26
      go_wp2_with (go_at_call 27; refine (within27 _ _ _ _).mono ?_; rintro e w' ⟨rfl, rfl⟩)
      go_ret
      exact ⟨by rw [HP.out, h1, h2, h3]; simp [h4, h5], (Below.refl _ w).alloc (Nat.le_refl _) _⟩
end Go.Proofs.Ytmckngkmlhemoaa
