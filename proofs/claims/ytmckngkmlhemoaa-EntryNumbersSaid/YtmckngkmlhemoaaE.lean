/- bytes.Compare, at two rows of bytes (layer 14, entry). -/
import Derived.Test.YtmckngkmlhemoaaA
import Derived.Lib.Bytealg
import Derived.Lib.BytesEntry
import Derived.Laws.Externs
namespace Go.Proofs.Ytmckngkmlhemoaa
open Go.RowKit
theorem run_compareBytes {P : Program} (xs ys : List Int) (A B : Addr) (c d : Nat) (w : World) (hx : ∀ j x, xs[j]? = some x → w.cell? (A.add j) = some (.int .u8 x)) (hy : ∀ j x, ys[j]? = some x → w.cell? (B.add j) = some (.int .u8 x)) :
    (Extern.BytealgCompare.compare #[.slice (some A) xs.length c, .slice (some B) ys.length d]).run P w = .ok (.int .i64 (Lib.compareBytes (Lib.bytesOf xs) (Lib.bytesOf ys))) w := by
  have h1 : (Extern.Bytes.bytesOf (.slice (some A) xs.length c)).run P w = .ok ⟨(Lib.bytesOf xs).toArray⟩ w := by
    have := Lib.run_loadBytesX (P := P) (w := w) xs A .empty hx
    simpa [Extern.Bytes.bytesOf] using this
  have h2 : (Extern.Bytes.bytesOf (.slice (some B) ys.length d)).run P w = .ok ⟨(Lib.bytesOf ys).toArray⟩ w := by
    have := Lib.run_loadBytesX (P := P) (w := w) ys B .empty hy
    simpa [Extern.Bytes.bytesOf] using this
  change Sem.run P (do pure (goInt (Extern.BytealgCompare.cmp (← Extern.Bytes.bytesOf (.slice (some A) xs.length c)) (← Extern.Bytes.bytesOf (.slice (some B) ys.length d))))) w = _
  simp only [Sem.run_bind, h1, h2, Result.andThen_ok, Sem.run_pure]
  rw [Lib.cmp_eq]
  rfl
set_option maxRecDepth 100000 in
theorem compare25 (xs ys : List Int) (A B : Addr) (c d : Nat) (w : World) (hx : ∀ j x, xs[j]? = some x → w.cell? (A.add j) = some (.int .u8 x)) (hy : ∀ j x, ys[j]? = some x → w.cell? (B.add j) = some (.int .u8 x)) :
    Calls Try.prog 25 #[.slice (some A) xs.length c, .slice (some B) ys.length d] w fun e w' => e = .returned (.int .i64 (Lib.compareBytes (Lib.bytesOf xs) (Lib.bytesOf ys))) ∧ w = w' := by
  have HR := Lib.hid (run_compareBytes (P := Try.prog) xs ys A B c d w hx hy)
  clear hx hy
  go_enter Try.func25, Try.ntmps25
  go_wp2_with fail
  rw [run_callFunc_extern Try.func29 (by kernel_rfl) (by kernel_rfl) (by kernel_rfl) (e := Extern.BytealgCompare.compare) (by kernel_rfl), HR.out]
  simp only [Result.andThen]
  rw [Oper.upon_value]
  go_wp2_with fail
  go_ret
  exact ⟨rfl, rfl⟩
end Go.Proofs.Ytmckngkmlhemoaa
