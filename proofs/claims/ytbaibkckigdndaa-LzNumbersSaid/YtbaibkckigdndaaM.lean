/- Arguments of the laws of layer 5 opened: a row of pieces, a row of bytes. -/
import Derived.Test.YtbaibkckigdndaaE
import Derived.Test.YtbaibkckigdndaaOpenS
namespace Go.Proofs.Ytbaibkckigdndaa
open Go.RowKit Go.ChangeShapes Go.WideShapes
section
variable {H : Type} {enc : TypeId × Value → H} {W : World}
theorem i64_bd {x : Int} (h : (Lit.int .i64 x).wf = true) : -9223372036854775808 ≤ x ∧ x ≤ 9223372036854775807 := by
  have hmin : IntKind.i64.min = -9223372036854775808 := rfl
  have hmax : IntKind.i64.max = 9223372036854775807 := rfl
  simp only [Lit.wf, Bool.and_eq_true, decide_eq_true_eq, hmin, hmax] at h
  omega
set_option maxRecDepth 100000 in
theorem open_pieces {v : Value} {d : DataW H} {ps : List MemPlace} {base : Nat} (hok : Value.okWide Try.prog W .any base 22 v) (h : DataW.Trod enc Try.prog W 0 (fun _ => true) true 22 v d ps) {ts : List TypeId} {ds : List (DataW H)} {j : Nat} (h1 : ts[j]? = some 22) (h2 : ds[j]? = some d)
    (hsz : (DataW.weightsEach Try.prog ts ds).all (· ≤ reachBytes) = true) :
    ∃ (A : Option Addr) (n c : Nat) (P : Nat → Pc), v = .slice A n c ∧ n ≤ 5864062014800 ∧ (A = none → n = 0 ∧ c = 0) ∧ (∀ k, k < n → (P k).len ≤ 9223372036854775807) ∧ SArr W W.heap.size A n 3 (pcsF P) := by
  obtain ⟨A, n, c, F, rfl, hnc, -, hby, hnil, hrow, hF⟩ := open_structs Try.underlying22 Try.underlying35 (by kernel_rfl) (by kernel_rfl) (by simp) hok h h1 h2 hsz
  have hb : Try.prog.bytesOf 35 = 24 := by kernel_rfl
  rw [hb] at hby
  simp only [reachBytes] at hby
  have hch : ∃ P : Nat → Pc, ∀ i, i < n → F i 0 = .int .u8 (P i).byte ∧ F i 1 = .int .i64 (P i).len ∧ F i 2 = .int .i64 (P i).dist ∧ (P i).len ≤ 9223372036854775807 := by
    have hg : ∀ i, ∃ p : Pc, i < n → F i 0 = .int .u8 p.byte ∧ F i 1 = .int .i64 p.len ∧ F i 2 = .int .i64 p.dist ∧ p.len ≤ 9223372036854775807 := fun i => by
      by_cases hi : i < n
      · obtain ⟨_, _, q0⟩ := hF i hi 0 _ rfl
        obtain ⟨_, _, q1⟩ := hF i hi 1 _ rfl
        obtain ⟨_, _, q2⟩ := hF i hi 2 _ rfl
        obtain ⟨x, e0, _, wx⟩ := DataW.trod_int Try.underlying5 q0
        obtain ⟨y, e1, _, wy⟩ := DataW.trod_int Try.underlying3 q1
        obtain ⟨z, e2, _, wz⟩ := DataW.trod_int Try.underlying3 q2
        exact ⟨⟨x, y, z⟩, fun _ => ⟨by simpa using e0, by simpa using e1, by simpa using e2, (i64_bd wy).2⟩⟩
      · exact ⟨⟨0, 0, 0⟩, fun h => absurd h hi⟩
    exact ⟨fun i => Classical.choose (hg i), fun i hi => Classical.choose_spec (hg i) hi⟩
  obtain ⟨P, hP⟩ := hch
  refine ⟨A, n, c, P, rfl, by omega, hnil, fun k hk => (hP k hk).2.2.2, fun h0 => ?_⟩
  obtain ⟨b, off, e, hlt, hc⟩ := hrow h0
  refine ⟨b, off, e, hlt, fun i hi j u hu => ?_⟩
  obtain ⟨e0, e1, e2, -⟩ := hP i hi
  have c0 := hc i hi 0 (by simp)
  have c1 := hc i hi 1 (by simp)
  have c2 := hc i hi 2 (by simp)
  rw [e0] at c0
  rw [e1] at c1
  rw [e2] at c2
  match j, hu with
  | 0, hu => obtain rfl := Option.some.inj hu; exact c0
  | 1, hu => obtain rfl := Option.some.inj hu; exact c1
  | 2, hu => obtain rfl := Option.some.inj hu; exact c2
end
end Go.Proofs.Ytbaibkckigdndaa
