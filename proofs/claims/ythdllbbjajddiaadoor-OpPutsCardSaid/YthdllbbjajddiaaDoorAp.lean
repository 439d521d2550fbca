/- The kit's ApartBytes at two rows of bytes. -/
import Derived.Test.YthdllbbjajddiaaDoorKh
import Derived.Test.YthdllbbjajddiaaDoorAw
namespace Go.Proofs.YthdllbbjajddiaaDoor
open Go.RowKit
theorem u8l_range {l : List Int} {n : Nat} (h : l.length = n) : u8l l = (List.range n).map fun i => Value.int .u8 (l.getD i 0) := by
  apply List.ext_getElem?
  intro i
  rw [u8l, List.getElem?_map, List.getElem?_map]
  by_cases hi : i < n
  · rw [List.getElem?_range hi]
    show _ = some (Value.int .u8 (l.getD i 0))
    rw [List.getD_eq_getElem?_getD, List.getElem?_eq_getElem (by omega)]; rfl
  · rw [List.getElem?_eq_none (by omega), List.getElem?_eq_none (by simp; omega)]; rfl
theorem arr_own {w : World} {base : Nat} {A : Option Addr} {n c : Nat} {l : List Int} (ho : w.ownsRow base 5 1 (.slice A n c) n (u8l l)) (hn : l.length = n) : Arr w w.heap.size A n fun j => .int .u8 (l.getD j 0) := by
  subst hn
  obtain ⟨A', c', e, h, _⟩ := bytes_arr ho
  cases e
  exact h
/-- Two rows that lie apart, in a list of their own. -/
theorem apart2 (w : World) (base : Nat) (Aa Ab : Option Addr) (na nb ca cb : Nat) (la lb : List Int) (hla : la.length = na) (hlb : lb.length = nb) (ha : w.ownsRow base 5 1 (.slice Aa na ca) na (u8l la)) (hb : w.ownsRow base 5 1 (.slice Ab nb cb) nb (u8l lb))
    (h1 : na ≤ 900000000) (h2 : nb ≤ 900000000) (dab : ∀ x, (Value.slice Aa na ca).ownBlock = some x → (Value.slice Ab nb cb).ownBlock ≠ some x) (hbase : base ≤ w.heap.size) :
    Calls Tryd.prog 17 #[.slice (some ⟨w.heap.size, 0, none⟩) 2 2] (w.alloc (.cells #[.slice Aa na ca, .slice Ab nb cb] 30)) fun e w' => e = .returned (.bool true) ∧ Below base w w' := by
  have hk : Keeps (fun _ => False) w (w.alloc (.cells #[.slice Aa na ca, .slice Ab nb cb] 30)) := Keeps.alloc _ w _
  rw [u8l_range hla] at ha
  rw [u8l_range hlb] at hb
  refine (apartB _ base 2 2 (some ⟨w.heap.size, 0, none⟩) (fun j => match j with | 0 => Aa | _ => Ab) (fun j => match j with | 0 => na | _ => nb) (fun j => match j with | 0 => ca | _ => cb) (by omega) (by omega) (fun j hj => ?_) (Arr.ofBlock 2 _ (heap_new w _) fun j hj => ?_) (fun j hj => ?_) (fun j k hj hk hne x hx => ?_) (by simp; omega)).mono ?_
  · match j, hj with
    | 0, _ => exact h1
    | 1, _ => exact h2
  · match j, hj with
    | 0, _ => rfl
    | 1, _ => rfl
  · match j, hj with
    | 0, _ => exact ⟨_, fun i hi => absurd hi (by omega), fun _ => rfl, hk.row ha fun _ _ h => h⟩
    | 1, _ => exact ⟨_, fun i hi => absurd hi (by omega), fun _ => rfl, hk.row hb fun _ _ h => h⟩
  · match j, hj, k, hk with
    | 0, _, 0, _ => exact absurd rfl hne
    | 0, _, 1, _ => exact dab x hx
    | 1, _, 0, _ => exact fun h => dab x h hx
    | 1, _, 1, _ => exact absurd rfl hne
  · rintro e w' ⟨he, hk2⟩
    refine ⟨he, ((Keeps.alloc _ w _).trans hk2 fun x _ hx => hx).below (fun x hx => ?_) hbase⟩
    obtain ⟨j, hj, hx⟩ := hx
    match j, hj with
    | 0, _ => exact (row_lt ha hx).1
    | 1, _ => exact (row_lt hb hx).1
end Go.Proofs.YthdllbbjajddiaaDoor
