/- Items, as cells. -/
import Derived.Test.YtodhaaaodmcplaaGreatMk2
import Derived.Test.YtodhaaaodmcplaaGreatBig2
import Derived.Test.YtodhaaaodmcplaaGreatU8
import Derived.Test.YtodhaaaodmcplaaGreatProg
set_option linter.all false
namespace Go.Proofs.YtodhaaaodmcplaaGreat
open Go.RowKit
structure Itm where
  kind : Int
  key : List Int
  a : Int
  n : Int
  u : Int
  r : Int
  sn : Int
  un : Int
  sk : List Int
  so : Int
  sm : Int
structure OkIt (i : Itm) : Prop where
  kind : (Lit.int .u8 i.kind).wf = true
  key : KeyOk 32 i.key
  a : (Lit.int .i64 i.a).wf = true
  n : (Lit.int .i64 i.n).wf = true
  u : (Lit.int .i64 i.u).wf = true
  r : (Lit.int .i64 i.r).wf = true
  sn : (Lit.int .i64 i.sn).wf = true
  un : (Lit.int .i64 i.un).wf = true
  sk : KeyOk 32 i.sk
  so : (Lit.int .i64 i.so).wf = true
  sm : (Lit.int .i64 i.sm).wf = true
abbrev ElIt := { i : Itm // OkIt i }
theorem wf0u : (Lit.int .u8 0).wf = true := by kernel_rfl
def itm0 (x : Int) : Itm := ⟨0, List.replicate 32 0, 0, 0, 0, 0, x, 0, List.replicate 32 0, 0, 0⟩
theorem itm0_ok {x : Int} (h : (Lit.int .i64 x).wf = true) : OkIt (itm0 x) := ⟨wf0u, keyOk_zero 32, wf0, wf0, wf0, wf0, h, wf0, keyOk_zero 32, wf0, wf0⟩
instance : Inhabited ElIt := ⟨⟨itm0 0, itm0_ok wf0⟩⟩
def itmCells (i : Itm) : List Value := [.int .u8 i.kind] ++ (u8l i.key ++ ([.int .i64 i.a, .int .i64 i.n, .int .i64 i.u, .int .i64 i.r] ++ ([.int .i64 i.sn, .int .i64 i.un] ++ (u8l i.sk ++ [.int .i64 i.so, .int .i64 i.sm]))))
def cellsIt (i : ElIt) : List Value := itmCells i.1
theorem lenIt (i : ElIt) : (cellsIt i).length = 73 := by simp [cellsIt, itmCells, u8l_len, i.2.key.len, i.2.sk.len]
theorem oneIt (i : ElIt) : ∀ v ∈ cellsIt i, v.oneCell' = true := by
  intro v hv
  simp only [cellsIt, itmCells, List.mem_append] at hv
  rcases hv with hv | hv | hv | hv | hv | hv
  · obtain rfl := List.mem_singleton.1 hv; rfl
  · exact u8l_one _ v hv
  · simp at hv; rcases hv with rfl | rfl | rfl | rfl <;> rfl
  · simp at hv; rcases hv with rfl | rfl <;> rfl
  · exact u8l_one _ v hv
  · simp at hv; rcases hv with rfl | rfl <;> rfl
def kindsIt : List IntKind := [.u8] ++ (List.replicate 32 .u8 ++ ([.i64, .i64, .i64, .i64] ++ ([.i64, .i64] ++ (List.replicate 32 .u8 ++ [.i64, .i64]))))
theorem leafsIt : leafs Tryz.prog 5 75 = some kindsIt := by kernel_rfl
theorem keyIt : Tryz.prog.keyTypeAt 5 75 = true := by kernel_rfl
theorem fitsIt (i : ElIt) : Fits (cellsIt i) kindsIt :=
  Fits.join (k1 := [.u8]) ⟨⟨_, rfl, i.2.kind⟩, trivial⟩ (Fits.join (fits_u8l i.2.key) (Fits.join (k1 := [.i64, .i64, .i64, .i64]) ⟨⟨_, rfl, i.2.a⟩, ⟨_, rfl, i.2.n⟩, ⟨_, rfl, i.2.u⟩, ⟨_, rfl, i.2.r⟩, trivial⟩ (Fits.join (k1 := [.i64, .i64]) ⟨⟨_, rfl, i.2.sn⟩, ⟨_, rfl, i.2.un⟩, trivial⟩ (Fits.join (fits_u8l i.2.sk) ⟨⟨_, rfl, i.2.so⟩, ⟨_, rfl, i.2.sm⟩, trivial⟩))))
theorem eqgIt : Tryz.prog.eqGuardType Tryz.prog.depth 75 = false := by kernel_rfl
theorem eqIt (c d : ElIt) (w : World) : ∃ r : Bool, EqRun Tryz.prog 75 (cellsIt c).toArray (cellsIt d).toArray w r ∧ (r = true ↔ cellsIt c = cellsIt d) := by
  obtain ⟨r, hr, hiff⟩ := eql_fits (P := Tryz.prog) (t := 75) (m := 5) (d := 5) (by omega) keyIt leafsIt (xs := (cellsIt c).toArray) (ys := (cellsIt d).toArray) (by simp [Value.formed, Tryz.underlying75, lenIt]; kernel_rfl) (by simp [Value.formed, Tryz.underlying75, lenIt]; kernel_rfl) (by simpa using fitsIt c) (by simpa using fitsIt d) w
  exact ⟨r, ⟨hr⟩, hiff.trans (by simp)⟩
theorem eqrIt (c : ElIt) (w : World) : EqRun Tryz.prog 75 (cellsIt c).toArray (cellsIt c).toArray w true := by
  obtain ⟨r, hr, h⟩ := eqIt c c w
  rwa [h.2 rfl] at hr
def zIt : List Value := itmCells (itm0 0)
theorem zlIt : zIt.length = 73 := rfl
theorem infoIt : (Tryz.prog.info? 75).map (fun i => (i.zero, i.size, i.bytes)) = some (some (.agg zIt.toArray), 73, 136) := by kernel_rfl
theorem zeroVIt (u : World) : (zeroValue 75).run Tryz.prog u = .ok (.agg zIt.toArray) u := by kernel_rfl
theorem mark_wfIt {k i : Nat} (hi : i < 1000000000) (hk : k < 100000) : (Lit.int .i64 (1000003 * (k + 7) + i : Nat)).wf = true := wf_i64 (by omega)
def mkIt (k i : Nat) : ElIt := if h : (Lit.int .i64 (1000003 * (k + 7) + i : Nat)).wf = true then ⟨itm0 (1000003 * (k + 7) + i : Nat), itm0_ok h⟩ else default
theorem buildIt0 (x : Int) (u : World) : BuildRun Tryz.prog 75 #[(3, .int .i64 x)] u (.agg (itmCells (itm0 x)).toArray) := ⟨by kernel_rfl⟩
theorem buildIt (k i : Nat) (hi : i < 1000000000) (hk : k < 100000) (u : World) : BuildRun Tryz.prog 75 #[(3, .int .i64 (1000003 * (k + 7) + i : Nat))] u (.agg (cellsIt (mkIt k i)).toArray) := by
  have e : cellsIt (mkIt k i) = itmCells (itm0 (1000003 * (k + 7) + i : Nat)) := by
    unfold mkIt
    rw [dif_pos (mark_wfIt hi hk)]
    rfl
  rw [e]
  exact buildIt0 _ u
end Go.Proofs.YtodhaaaodmcplaaGreat
