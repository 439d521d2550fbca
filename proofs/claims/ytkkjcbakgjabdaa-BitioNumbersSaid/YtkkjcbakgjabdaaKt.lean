/- The kit's TurnBytes: bytes are turned in their own memory. -/
import Derived.Test.YtkkjcbakgjabdaaKm
namespace Go.Proofs.Ytkkjcbakgjabdaa
open Go.RowKit
set_option maxHeartbeats 1000000 in
theorem turnB (w : World) (base : Nat) (v : Value) (n : Nat) (f : Nat → Int) (hn : n ≤ 17592186044400) (hv : w.ownsRow base 5 1 v n ((List.range n).map fun i => .int .u8 (f i))) :
    Calls Try.prog 23 #[v] w fun e w' => e = .returned undef ∧ Keeps (fun k => v.ownBlock = some k) w w' ∧ ∃ g : Nat → Int, w'.ownsRow base 5 1 v n ((List.range n).map fun i => .int .u8 (g i)) := by
  obtain ⟨A, cap, rfl, _, hcap, _, hnn⟩ := row_arr hv
  have HV := Lib.hid hv
  have HN := Lib.hid hnn
  clear hv hnn
  go_enter Try.func23, Try.ntmps23
  go_wp2_with fail
  go_loopw [2] (fun i wr => ∃ (k : Nat) (g : Nat → Int), k ≤ n ∧ i = .int .i64 k ∧ wr.ownsRow base 5 1 (.slice A n cap) n ((List.range n).map fun i => .int .u8 (g i)) ∧ Keeps (fun k => (Value.slice A n cap).ownBlock = some k) w wr) (fun i _ => n - (intOf i).toNat)
  case atStart => exact ⟨0, f, Nat.zero_le _, rfl, HV.out, Keeps.refl _ _⟩
  case round =>
    clear HV
    obtain ⟨k, h, hk, rfl, hv, hkp⟩ := hrel
    have HV := Lib.hid hv
    have HK := Lib.hid hkp
    clear hkp
    by_cases hlt : k < n
    · obtain ⟨g, c2, e2, hbg, hgz⟩ := hv.form (by omega)
      injection e2 with e3 e4 e5
      subst e3 e5
      have hck : wr.cell? ⟨g, k, none⟩ = some (.int .u8 (h k)) := by
        have := hv.cellAt k (by simp; omega)
        rw [this, List.getElem?_map, List.getElem?_range hlt]; rfl
      have hfz : wr.frozen? ⟨g, k, none⟩ = false := hv.frozenAt k
      clear hv e4
      go_wp2_with fail
      go_roundw
      case rel =>
        have hs := HV.out.stored k (.int .u8 (bits .xor .u8 (h k) 255))
        refine ⟨k + 1, fun i => if i = k then bits .xor .u8 (h k) 255 else h i, by omega, by go_num, ?_, HK.out.trans (Keeps.grown hs.2 fun _ e => e) fun _ _ h => h⟩
        have e : ((List.range n).map fun i => Value.int .u8 (h i)).set k (.int .u8 (bits .xor .u8 (h k) 255)) = (List.range n).map fun i => Value.int .u8 (if i = k then bits .xor .u8 (h k) 255 else h i) := by
          apply List.ext_getElem?
          intro j
          rw [List.getElem?_set, List.getElem?_map, List.getElem?_map]
          by_cases hj : k = j
          · subst hj
            simp [hlt]
          · by_cases hjn : j < n
            · simp [hj, hjn, Ne.symm hj]
            · simp [hj, hjn]
        rw [← e]
        exact hs.1
      case measure => simp [intOf]; omega
    · obtain rfl : k = n := by omega
      go_wp2_with fail
      refine bodyPost_end (results_none rfl _ _ _) rfl ?_
      exact ⟨rfl, HK.out, h, HV.out⟩
end Go.Proofs.Ytkkjcbakgjabdaa
