/- Counts by keys, as cells. -/
import Derived.Test.YtblfkngdieffiaaRf
import Derived.Test.YtblfkngdieffiaaBig2
import Derived.Test.YtblfkngdieffiaaU8
import Derived.Test.YtblfkngdieffiaaProg
namespace Go.Proofs.Ytblfkngdieffiaa
open Go.RowKit
structure OkC (c : Ct) : Prop where
  key : KeyOk 32 c.k
  r : (Lit.int .i64 c.r).wf = true
abbrev ElC := { c : Ct // OkC c }
instance : Inhabited ElC := ⟨⟨⟨List.replicate 32 0, 0⟩, keyOk_zero 32, wf0⟩⟩
def cellsC (c : ElC) : List Value := u8l c.1.k ++ [.int .i64 c.1.r]
theorem lenC (c : ElC) : (cellsC c).length = 33 := by simp [cellsC, u8l_len, c.2.key.len]
theorem oneC (c : ElC) : ∀ v ∈ cellsC c, v.oneCell' = true := by
  intro v hv
  rcases List.mem_append.1 hv with hv | hv
  · exact u8l_one _ v hv
  · obtain rfl := List.mem_singleton.1 hv; rfl
def kindsC : List IntKind := List.replicate 32 .u8 ++ [.i64]
theorem leafsC : leafs Try.prog 5 45 = some kindsC := by kernel_rfl
theorem keyC : Try.prog.keyTypeAt 5 45 = true := by kernel_rfl
theorem fitsC (c : ElC) : Fits (cellsC c) kindsC := (fits_u8l c.2.key).join ⟨⟨c.1.r, rfl, c.2.r⟩, trivial⟩
theorem eqgC : Try.prog.eqGuardType Try.prog.depth 45 = false := by kernel_rfl
theorem eqC (c d : ElC) (w : World) : ∃ r : Bool, EqRun Try.prog 45 (cellsC c).toArray (cellsC d).toArray w r ∧ (r = true ↔ cellsC c = cellsC d) := by
  obtain ⟨r, hr, hiff⟩ := eql_fits (P := Try.prog) (t := 45) (m := 5) (d := 5) (by omega) keyC leafsC (xs := (cellsC c).toArray) (ys := (cellsC d).toArray) (by simp [Value.formed, Try.underlying45, lenC]; kernel_rfl) (by simp [Value.formed, Try.underlying45, lenC]; kernel_rfl) (by simpa using fitsC c) (by simpa using fitsC d) w
  exact ⟨r, ⟨hr⟩, hiff.trans (by simp)⟩
theorem eqrC (c : ElC) (w : World) : EqRun Try.prog 45 (cellsC c).toArray (cellsC c).toArray w true := by
  obtain ⟨r, hr, h⟩ := eqC c c w
  rwa [h.2 rfl] at hr
def zC : List Value := List.replicate 32 (.int .u8 0) ++ [.int .i64 0]
theorem zlC : zC.length = 33 := rfl
theorem infoC : (Try.prog.info? 45).map (fun i => (i.zero, i.size, i.bytes)) = some (some (.agg zC.toArray), 33, 40) := by kernel_rfl
theorem zeroVC (u : World) : (zeroValue 45).run Try.prog u = .ok (.agg zC.toArray) u := by kernel_rfl
def mkC (k i : Nat) : ElC := if h : (Lit.int .i64 (1000003 * (k + 7) + i : Nat)).wf = true then ⟨⟨List.replicate 32 0, (1000003 * (k + 7) + i : Nat)⟩, keyOk_zero 32, h⟩ else default
theorem mark_wf {k i : Nat} (hi : i < 1000000000) (hk : k < 100000) : (Lit.int .i64 (1000003 * (k + 7) + i : Nat)).wf = true := wf_i64 (by omega)
theorem buildC0 (x : Int) (u : World) : BuildRun Try.prog 45 #[(1, .int .i64 x)] u (.agg (u8l (List.replicate 32 0) ++ [Value.int .i64 x]).toArray) := ⟨by kernel_rfl⟩
theorem buildC (k i : Nat) (hi : i < 1000000000) (hk : k < 100000) (u : World) : BuildRun Try.prog 45 #[(1, .int .i64 (1000003 * (k + 7) + i : Nat))] u (.agg (cellsC (mkC k i)).toArray) := by
  have e : cellsC (mkC k i) = u8l (List.replicate 32 0) ++ [Value.int .i64 (1000003 * (k + 7) + i : Nat)] := by
    unfold mkC
    rw [dif_pos (mark_wf hi hk)]
    rfl
  rw [e]
  exact buildC0 _ u
/-- A count is its cells. -/
theorem cellsC_inj {c d : ElC} (h : cellsC c = cellsC d) : c = d := by
  unfold cellsC at h
  obtain ⟨h1, h2⟩ := List.append_inj h (by rw [u8l_len, u8l_len, c.2.key.len, d.2.key.len])
  have h3 : c.1.k = d.1.k := (List.map_inj_right fun x y h => by injection h).1 h1
  have h4 : c.1.r = d.1.r := by
    injection h2 with h2 _
    injection h2
  obtain ⟨⟨a, b⟩, hc⟩ := c
  obtain ⟨⟨a', b'⟩, hd⟩ := d
  simp only at h3 h4
  subst h3 h4
  rfl
end Go.Proofs.Ytblfkngdieffiaa
