/- The kit's ApartPieces: two lists that lie apart are told to lie apart. -/
import Derived.Test.YtbaibkckigdndaaPh
namespace Go.Proofs.Ytbaibkckigdndaa
open Go.RowKit
theorem apartP2 (w : World) (base : Nat) (Aa Ab : Option Addr) (na nb ca cb : Nat) (Pa Pb : Nat → Pc) (ha : w.ownsRow base 35 3 (.slice Aa na ca) na (flatS (pcsF Pa) na)) (hb : w.ownsRow base 35 3 (.slice Ab nb cb) nb (flatS (pcsF Pb) nb))
    (h1 : na ≤ 900000000) (h2 : nb ≤ 900000000) (dab : ∀ x, (Value.slice Aa na ca).ownBlock = some x → (Value.slice Ab nb cb).ownBlock ≠ some x) (hbase : base ≤ w.heap.size) :
    Calls Try.prog 22 #[.slice (some ⟨w.heap.size, 0, none⟩) 2 2] (w.alloc (.cells #[.slice Aa na ca, .slice Ab nb cb] 22)) fun e w' => e = .returned (.bool true) ∧ Keeps (fun x => (Value.slice Aa na ca).ownBlock = some x ∨ (Value.slice Ab nb cb).ownBlock = some x) w w' := by
  have hk : Keeps (fun _ => False) w (w.alloc (.cells #[.slice Aa na ca, .slice Ab nb cb] 22)) := Keeps.alloc _ w _
  have one : ∀ (P : Nat → Pc) i, ∀ u ∈ pcsF P i, u.oneCell' = true := fun P i u hu => by
    simp [pcsF, Pc.cells] at hu
    rcases hu with rfl | rfl | rfl <;> rfl
  refine (apartP _ base 2 2 (some ⟨w.heap.size, 0, none⟩) (fun j => match j with | 0 => Aa | _ => Ab) (fun j => match j with | 0 => na | _ => nb) (fun j => match j with | 0 => ca | _ => cb) (by omega) (by omega) (fun j hj => ?_) (Arr.ofBlock 2 _ (heap_new w _) fun j hj => ?_) (fun j hj => ?_) (fun j k hj hk hne x hx => ?_) (by simp; omega)).mono ?_
  · match j, hj with
    | 0, _ => exact h1
    | 1, _ => exact h2
  · match j, hj with
    | 0, _ => rfl
    | 1, _ => rfl
  · match j, hj with
    | 0, _ => exact ⟨pcsF Pa, wide_pcs _, one Pa, fun i hi => absurd hi (by omega), hk.row ha fun _ _ h => h⟩
    | 1, _ => exact ⟨pcsF Pb, wide_pcs _, one Pb, fun i hi => absurd hi (by omega), hk.row hb fun _ _ h => h⟩
  · match j, hj, k, hk with
    | 0, _, 0, _ => exact absurd rfl hne
    | 0, _, 1, _ => exact dab x hx
    | 1, _, 0, _ => exact fun h => dab x h hx
    | 1, _, 1, _ => exact absurd rfl hne
  · rintro e w' ⟨he, hk2⟩
    refine ⟨he, (Keeps.alloc _ w _).trans hk2 fun x _ hx => ?_⟩
    obtain ⟨j, hj, hx⟩ := hx
    match j, hj with
    | 0, _ => exact .inl hx
    | 1, _ => exact .inr hx
end Go.Proofs.Ytbaibkckigdndaa
