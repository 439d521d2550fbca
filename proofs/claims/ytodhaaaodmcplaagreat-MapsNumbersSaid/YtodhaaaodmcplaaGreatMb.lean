/- Layer 23 (maps): how maps lie: their cells as lists. -/
import Derived.Test.YtodhaaaodmcplaaGreatMa
import Derived.Test.YtodhaaaodmcplaaGreatSeg
import Derived.Test.YtodhaaaodmcplaaGreatU8
set_option linter.all false
namespace Go.Proofs.YtodhaaaodmcplaaGreat
open Go.RowKit
def slC (k : List Int) (o m : Int) : List Value := u8l k ++ [.int .i64 o, .int .i64 m]
def slcC (s : Slc) : List Value := slC s.1.k s.1.o s.1.m
theorem lenC (s : Slc) : (slcC s).length = 34 := by simp [slcC, slC, u8l_len, s.2.key.len]
theorem wideC (F : Mp1) : Wide 34 fun i => slcC (F i) := fun i => lenC (F i)
theorem oneC (s : Slc) : ∀ v ∈ slcC s, v.oneCell' = true := by
  intro v hv
  unfold slcC slC at hv
  rcases List.mem_append.1 hv with h | h
  · exact u8l_one _ v h
  · simp at h
    rcases h with rfl | rfl <;> rfl
/-- A map's cells; chosen, so that nothing unfolds them. -/
theorem oneL_ex (N : Nat) : ∃ f : Mp1 → List Value, ∀ F, f F = flatS (fun i => slcC (F i)) N := ⟨_, fun _ => rfl⟩
noncomputable def oneL : Mp1 → List Value := Classical.choose (oneL_ex 512)
theorem oneL_eq (F : Mp1) : oneL F = flatS (fun i => slcC (F i)) 512 := Classical.choose_spec (oneL_ex 512) F
theorem flat_len34 (F : Mp1) {N M : Nat} (h : N * 34 = M) : (flatS (fun i => slcC (F i)) N).length = M := (flatS_len (wideC F) N).trans h
theorem oneL_len (F : Mp1) : (oneL F).length = 17408 := by rw [oneL_eq]; exact flat_len34 F (by decide)
theorem oneL_one (F : Mp1) : ∀ v ∈ oneL F, v.oneCell' = true := by
  rw [oneL_eq]
  exact flatS_one fun _ _ u hu => oneC _ u hu
/-- Maps' cells: how many units, the current map, the snapshots. -/
noncomputable def mxL (n : Int) (F : Mp1) (v : Value) : List Value := [.int .i64 n] ++ (oneL F ++ [v])
theorem mxL_len (n : Int) (F : Mp1) (v : Value) : (mxL n F v).length = 17410 := by
  unfold mxL
  rw [List.length_append, List.length_append, oneL_len, List.length_singleton, List.length_singleton]
theorem mxL_n (n : Int) (F : Mp1) (v : Value) : (mxL n F v)[0]? = some (.int .i64 n) := rfl
theorem mxL_v (n : Int) (F : Mp1) (v : Value) : (mxL n F v)[17409]? = some v := by
  unfold mxL
  rw [List.getElem?_append_right (by simp), List.length_singleton, List.getElem?_append_right (by rw [oneL_len]; omega), oneL_len]
  rfl
theorem mxL_at (n : Int) (F : Mp1) (v : Value) {j : Nat} (hj : j < 17408) : (mxL n F v)[1 + j]? = (oneL F)[j]? := by
  unfold mxL
  rw [List.getElem?_append_right (by simp), List.length_singleton, Nat.add_sub_cancel_left, List.getElem?_append_left (by rw [oneL_len]; exact hj)]
theorem oneL_at (F : Mp1) {u i : Nat} (hu : u < 512) (hi : i < 34) : (oneL F)[u * 34 + i]? = (slcC (F u))[i]? := by
  rw [oneL_eq]
  exact flatS_at (wideC F) hi hu
/-- A unit's slice is set. -/
theorem oneL_set (F : Mp1) {u : Nat} (s : Slc) (hu : u < 512) : splice (oneL F) (u * 34) (slcC s) = oneL (upd F u s) := by
  rw [oneL_eq, oneL_eq, flatS_splice (wideC F) (lenC s) hu]
  refine flatS_congr fun j _ => ?_
  unfold upd
  split <;> rfl
theorem mxL_set (n : Int) (F : Mp1) (v : Value) {u : Nat} (s : Slc) (hu : u < 512) : splice (mxL n F v) (1 + u * 34) (slcC s) = mxL n (upd F u s) v := by
  unfold mxL
  have h := splice_right [Value.int .i64 n] (oneL F ++ [v]) (slcC s) (u * 34)
  rw [List.length_singleton] at h
  rw [h, splice_left (oneL F) [v] (slcC s) (by rw [oneL_len, lenC]; omega), oneL_set F s hu]
/-- All units are set. -/
theorem mxL_all (n : Int) (F G : Mp1) (v : Value) : splice (mxL n F v) 1 (oneL G) = mxL n G v := by
  unfold mxL
  exact splice_mid [Value.int .i64 n] (oneL F) [v] (oneL G) rfl (by rw [oneL_len, oneL_len])
/-- One cell of a unit's slice is set. -/
theorem mxL_cell (n : Int) (F : Mp1) (v : Value) {u o : Nat} (x : Value) (s : Slc) (hu : u < 512) (ho : o < 34) (hs : slcC s = (slcC (F u)).set o x) : (mxL n F v).set (1 + u * 34 + o) x = mxL n (upd F u s) v := by
  have h1 : (oneL F).set (u * 34 + o) x = oneL (upd F u s) := by
    rw [oneL_eq, oneL_eq]
    refine flatS_set (G := fun i => slcC (upd F u s i)) (wideC F) ?_ ho (fun j hj => ?_) hu
    · show slcC (upd F u s u) = _
      rw [show upd F u s u = s from if_pos rfl, hs]
    · show slcC (upd F u s j) = _
      rw [show upd F u s j = F j from if_neg hj]
  unfold mxL
  rw [List.set_append, if_neg (by simp), List.length_singleton, show 1 + u * 34 + o - 1 = u * 34 + o by omega, List.set_append, if_pos (by rw [oneL_len]; omega), h1]
end Go.Proofs.YtodhaaaodmcplaaGreat
