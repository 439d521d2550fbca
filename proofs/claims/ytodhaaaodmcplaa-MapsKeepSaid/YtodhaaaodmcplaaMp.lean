/- Layer 23 (maps): the chapter's example, in plain Lean. -/
import Derived.Test.YtodhaaaodmcplaaMc
set_option linter.all false
namespace Go.Proofs.Ytodhaaaodmcplaa
open Go.RowKit
theorem mkS_of {s : Sl} (h : OkSl s) : mkS s = ⟨s, h⟩ := dif_pos h
theorem getM_now {st : MS} {un : Int} (h : 0 ≤ un ∧ un < st.n ∧ (st.now un.toNat).1.m ≠ 0) : getM st 0 un = some (st.now un.toNat) := by
  unfold getM ofM
  rw [if_pos rfl]
  exact if_pos h
theorem getM_no {st : MS} {un : Int} (h : ¬ (0 ≤ un ∧ un < st.n ∧ (st.now un.toNat).1.m ≠ 0)) : getM st 0 un = none := by
  unfold getM ofM
  rw [if_pos rfl]
  exact if_neg h
theorem getM_snap {st : MS} {id un : Int} {F : Mp1} (h0 : id ≠ 0) (hf : findS id st.snaps = some F) (h : 0 ≤ un ∧ un < st.n ∧ (F un.toNat).1.m ≠ 0) : getM st id un = some (F un.toNat) := by
  unfold getM ofM
  rw [if_neg h0, hf]
  exact if_pos h
def k9 : List Int := 9 :: List.replicate 31 0
theorem k9_ok : KeyOk 32 k9 := ⟨rfl, fun x hx => by
  rcases List.mem_cons.1 hx with rfl | hx
  · omega
  · rw [List.eq_of_mem_replicate hx]; omega⟩
def s9 : Sl := ⟨k9, 0, 255⟩
def S9 : Slc := ⟨s9, k9_ok, ⟨by decide, by decide⟩, ⟨by decide, by decide⟩⟩
def F0 : Mp1 := fun _ => sl0
def st0 (n : Nat) : MS := ⟨n, F0, []⟩
theorem inv_st0 {n : Nat} (h : 1 ≤ n ∧ n ≤ 512) : Inv (st0 n) := ⟨h, List.Pairwise.nil, fun x hx => (by cases hx), Nat.zero_le _⟩
/-- What the example comes to. -/
structure Exm (s1 s2 s3 s4 s5 : MS) : Prop where
  e1 : setE (st0 4) 1 s9 = 0
  r1 : setM (st0 4) 1 s9 = s1
  e2 : snapE s1 7 = 0
  r2 : snapM s1 7 = s2
  e3 : clearE s2 9 2 = 0
  r3 : clearM s2 9 2 = s3
  g3 : ∃ x : Slc, getM s3 0 1 = some x ∧ x.1.m = 249
  h3 : ∃ x : Slc, getM s3 7 1 = some x ∧ x.1.m = 255
  e4 : clearE s3 8 8 = 0
  r4 : clearM s3 8 8 = s4
  g4 : getM s4 0 1 = none
  e5 : (findS 7 s4.snaps).isSome = true
  r5 : backM s4 7 = s5
  g5 : ∃ x : Slc, getM s5 0 1 = some x ∧ x.1.m = 255
  e6 : snapE s5 7 = 7
  r6 : snapM s5 7 = s5
  e7 : dropE s5 8 = 13
  r7 : dropM s5 8 = s5
  e8 : clearE s5 31 2 = 2
  r8 : clearM s5 31 2 = s5
  l9 : (itemsM s5).length = 3
  l0 : s5.snaps.length = 1
theorem clr249 : clrV 255 (bitsV 1 3) = 249 := by decide +kernel
theorem clr0 : clrV 249 (bitsV 0 8) = 0 := by decide +kernel
theorem examples23 : ∃ s1 s2 s3 s4 s5, Exm s1 s2 s3 s4 s5 := by
  have hs1 : setM (st0 4) 1 s9 = ⟨4, upd F0 1 S9, []⟩ := by
    unfold setM
    rw [if_pos (by decide)]
    show MS.mk _ (upd F0 1 (mkS s9)) _ = _
    rw [show mkS s9 = S9 from mkS_of (s := s9) S9.2]
    rfl
  have hF1 : upd F0 1 S9 1 = S9 := if_pos rfl
  have hs2 : snapM ⟨4, upd F0 1 S9, []⟩ 7 = ⟨4, upd F0 1 S9, [(7, upd F0 1 S9)]⟩ := rfl
  have hc : clearF (upd F0 1 S9) 9 11 = upd (upd F0 1 S9) 1 (clrS S9 1 3) := by
    rw [clear_step (u := 1) (by decide) (by decide) (by decide), hF1]
  have hcs : (clrS S9 1 3).1.m = 249 := by rw [clrS_m (by decide) (by decide)]; exact clr249
  have hs3 : clearM ⟨4, upd F0 1 S9, [(7, upd F0 1 S9)]⟩ 9 2 = ⟨4, upd (upd F0 1 S9) 1 (clrS S9 1 3), [(7, upd F0 1 S9)]⟩ := by
    unfold clearM
    rw [if_pos (by decide)]
    show MS.mk _ (clearF (upd F0 1 S9) 9 11) _ = _
    rw [hc]
  obtain ⟨F3, hF3⟩ : ∃ F3, F3 = upd (upd F0 1 S9) 1 (clrS S9 1 3) := ⟨_, rfl⟩
  have h31 : F3 1 = clrS S9 1 3 := by rw [hF3]; exact if_pos rfl
  rw [← hF3] at hs3
  have hs4 : clearM ⟨4, F3, [(7, upd F0 1 S9)]⟩ 8 8 = ⟨4, upd F3 1 (clrS (clrS S9 1 3) 0 8), [(7, upd F0 1 S9)]⟩ := by
    unfold clearM
    rw [if_pos (show clearB ⟨4, F3, [(7, upd F0 1 S9)]⟩ 8 8 = true from rfl)]
    show MS.mk _ (clearF F3 8 16) _ = _
    rw [clear_step (u := 1) (by decide) (by decide) (by decide), h31]
  have h41 : (clrS (clrS S9 1 3) 0 8).1.m = 0 := by rw [clrS_m (by decide) (by decide), hcs]; exact clr0
  obtain ⟨F4, hF4⟩ : ∃ F4, F4 = upd F3 1 (clrS (clrS S9 1 3) 0 8) := ⟨_, rfl⟩
  have h4 : F4 1 = clrS (clrS S9 1 3) 0 8 := by rw [hF4]; exact if_pos rfl
  rw [← hF4] at hs4
  have hs5 : backM ⟨4, F4, [(7, upd F0 1 S9)]⟩ 7 = ⟨4, upd F0 1 S9, [(7, upd F0 1 S9)]⟩ := rfl
  have gt : ∀ F : Mp1, (F 1).1.m ≠ 0 → getM ⟨4, F, [(7, upd F0 1 S9)]⟩ 0 1 = some (F 1) := fun F h => getM_now (st := ⟨4, F, [(7, upd F0 1 S9)]⟩) (un := 1) ⟨by omega, by show (1 : Int) < ((4 : Nat) : Int); omega, h⟩
  refine ⟨_, _, _, _, _, ⟨by decide, hs1, rfl, hs2, by decide, hs3, ⟨F3 1, gt F3 (by rw [h31, hcs]; decide), by rw [h31, hcs]⟩, ⟨S9, getM_snap (st := ⟨4, F3, [(7, upd F0 1 S9)]⟩) (id := 7) (un := 1) (F := upd F0 1 S9) (by decide) rfl ⟨by omega, by show (1 : Int) < ((4 : Nat) : Int); omega, by decide⟩, rfl⟩, rfl, hs4, getM_no (st := ⟨4, F4, [(7, upd F0 1 S9)]⟩) (un := 1) fun h => h.2.2 (by show (F4 1).1.m = 0; rw [h4, h41]), rfl, hs5, ⟨S9, gt (upd F0 1 S9) (by decide), rfl⟩, rfl, rfl, rfl, rfl, by decide, if_neg (by decide), by decide, rfl⟩⟩
end Go.Proofs.Ytodhaaaodmcplaa
