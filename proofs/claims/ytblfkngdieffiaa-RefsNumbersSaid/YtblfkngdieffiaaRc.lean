/- Layer 24 (refs): the document's Count. -/
import Derived.Test.YtblfkngdieffiaaAd
import Derived.Test.YtblfkngdieffiaaBkIt
namespace Go.Proofs.Ytblfkngdieffiaa
open Go.RowKit Go.Maps Go.WideMaps
/-- A row that was made of sums. -/
def MadeOut (cs : List Ct) (n : Nat) (e : Ending) (w w' : World) : Prop :=
  ∃ (M : Nat → ElC) (m : Nat) (v : Value), e = .returned v ∧ Made cs (lst M m) ∧ m ≤ n ∧ w'.ownsRow w.heap.size 45 33 v m (flatS (fun i => cellsC (M i)) m) ∧ Below w.heap.size w w'
theorem itm_sk' (i : ElIt) {w : World} {b o : Nat} (h : w.rangeAt b o (cellsIt i)) : w.rangeAt b (o + 39) (u8l i.1.sk) := by
  intro j v hj
  have hlt : j < 32 := by rw [← i.2.sk.len, ← u8l_len]; exact (List.getElem?_eq_some_iff.1 hj).1
  have h2 := h (39 + j) v (by
    have e1 : (u8l i.1.key).length = 32 := by rw [u8l_len, i.2.key.len]
    unfold cellsIt itmCells
    rw [List.getElem?_append_right (by simp; omega), List.getElem?_append_right (by simp [e1]; omega), List.getElem?_append_right (by simp [e1]; omega), List.getElem?_append_right (by simp [e1]; omega), List.getElem?_append_left (by simp [e1, u8l_len, i.2.sk.len]; omega)]
    simp only [List.length_cons, List.length_nil, e1]
    rw [show 39 + j - (0 + 1) - 32 - (0 + 1 + 1 + 1 + 1) - (0 + 1 + 1) = j by omega]
    exact hj)
  rwa [← Nat.add_assoc] at h2
theorem wrap_one : wrap64 1 = 1 := IntWalk.wrap64_in 1 (by omega)
set_option maxRecDepth 100000 in
set_option maxHeartbeats 4000000 in
theorem refCount (I : Nat → ElIt) (A : Option Addr) (n c : Nat) (w : World) (hn : n ≤ 137438953000) (ha : SArr w w.heap.size A n 73 fun i => cellsIt (I i)) :
    Calls Try.prog 12 #[.slice A n c] w fun e w' => MadeOut (csI I n) n e w w' := by
  have HA := Lib.hid ha
  clear ha
  go_enter Try.func12, Try.ntmps12
  go_wp2_with fail
  go_loopw [3, 4] (fun v i wr => ∃ (k m : Nat) (M : Nat → ElC), k ≤ n ∧ m ≤ k ∧ i = .int .i64 k ∧ Made (csI I k) (lst M m) ∧ wr.ownsRow w.heap.size 45 33 v m (flatS (fun i => cellsC (M i)) m) ∧ Below w.heap.size w wr) (fun _ i _ => n - (intOf i).toNat)
  case atStart => exact ⟨0, 0, fun _ => default, Nat.zero_le _, Nat.le_refl _, rfl, made_nil, World.ownsRow_nil _ _ _ _, Below.refl _ _⟩
  case round =>
    obtain ⟨k, m, M, hk, hm, rfl, hmd, ho, hb⟩ := hrel
    have HM := Lib.hid hmd
    have HO := Lib.hid ho
    have HB := Lib.hid hb
    clear hmd ho hb
    by_cases hlt : k < n
    · obtain ⟨b, off, rfl, hbl, hc⟩ := (HA.out.below HB.out (Nat.le_refl _)) (by omega)
      have c0 := itm_kind (I k) (hc k hlt)
      have RK := Lib.hid (itm_sk' (I k) (hc k hlt))
      have HKO := Lib.hid (I k).2.sk
      have HC1 := Lib.hid fun h => csI_one I (n := k) h
      have HC0 := Lib.hid fun h => csI_no I (n := k) h
      obtain ⟨kd, hkd⟩ : ∃ kd, kd = (I k).1.kind := ⟨_, rfl⟩
      obtain ⟨sk, hsk⟩ : ∃ sk, sk = (I k).1.sk := ⟨_, rfl⟩
      have HKL : Hid ((Try.prog.info? 35).map (·.size) = some (u8l sk).length) := Lib.hid (by rw [u8l_len, hsk, HKO.out.len]; exact infoKey)
      rw [← hkd] at c0 HC1 HC0
      rw [← hsk] at RK HKO HC1
      have i1 : (0 : Int) ≤ k := by omega
      have i2 : (k : Int) < n := by omega
      clear hc hkd hsk hbl
      by_cases h2 : kd = 2
      · have HC2 := Lib.hid (HC1.out h2)
        rw [h2] at c0
        clear h2
        go_wp2_with (refine wpList_load_midG rfl 35 (.tmp 22) rfl b (off + k * 73 + 39) rfl (u8l sk) _ RK.out Try.underlying35 rfl HKL.out ?_)
        refine (add24 M m w.heap.size _ sk 1 wr (by omega) HB.out.size HKO.out (wf_i64 (by omega)) HO.out).mono ?_
        rintro e w2 ⟨M2, m2, v2, rfl, hl, hm2, ho2, hb2⟩
        have HM2 : Hid (Made (csI I (k + 1)) (lst M2 m2)) := Lib.hid (by rw [HC2.out, hl]; exact HM.out.add HKO.out wrap_one)
        have HO2 := Lib.hid ho2
        have HB2 := Lib.hid (HB.out.trans hb2)
        clear hl ho2 hb2
        go_wp2_with fail
        go_roundw
        case rel => exact ⟨k + 1, m2, M2, by omega, by omega, by go_num, HM2.out, HO2.out, HB2.out⟩
        case measure => simp [intOf]; omega
      · have h3 : (kd == 2) = false := by simpa using h2
        have HC2 := Lib.hid (HC0.out h2)
        clear h2
        go_wp2_with fail
        go_roundw
        case rel => exact ⟨k + 1, m, M, by omega, by omega, by go_num, HC2.out ▸ HM.out, HO.out, HB.out⟩
        case measure => simp [intOf]; omega
    · obtain rfl : k = n := by omega
      go_wp2_with fail
      go_ret
      exact ⟨M, m, _, rfl, HM.out, hm, HO.out, HB.out⟩
end Go.Proofs.Ytblfkngdieffiaa
