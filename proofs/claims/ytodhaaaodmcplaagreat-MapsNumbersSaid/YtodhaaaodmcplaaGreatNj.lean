/- Layer 23 (maps): Ids: the snapshots' numbers, sorted. -/
import Derived.Test.YtodhaaaodmcplaaGreatNi
import Derived.Test.YtodhaaaodmcplaaGreatSp
set_option linter.all false
namespace Go.Proofs.YtodhaaaodmcplaaGreat
open Go.RowKit Go.Maps Go.WideMaps Go.Sort Go.Shelf
theorem sortsA (m : Nat) : AnyZI.SortsIn Tryz.prog sortedA_ren Fence.wide m :=
  ⟨fun blk off cap ss W hH hblk hsz => callsIn_wide.2 (AnyM.slices_Sort_int sortA blk off cap ss W hH hblk hsz),
   fun p cap W => callsIn_wide.2 (AnyM.slices_Sort_int_none sortA p cap W)⟩
theorem keys_c (mb : Option Nat) (W : World) : Calls Tryz.prog 32 #[.map mb] W fun e W' => e = .returned (.func (.func 42) #[] #[.pointer (some ⟨W.heap.size, 0, none⟩)]) ∧ W' = W.alloc (.cells #[.map mb] 49) :=
  (callsIn_wide (n := 5)).1 (AnyZI.keys_in keysA Fence.wide 5 trivial rfl mb W)
set_option maxHeartbeats 1000000 in
theorem sorted_c (b nn : Nat) (D0 : DataW Value) (R : Value → Option (DataW Value × List MemPlace)) (w : World) (hown : w.ownsMap Tryz.prog 3 R b nn D0) (hmax : Maps.size D0 ≤ maxLen) (hbytes : Maps.size D0 * 8 ≤ 140737488355328) :
    Calls Tryz.prog 31 #[.func (.func 42) #[] #[.pointer (some ⟨w.heap.size, 0, none⟩)]] (w.alloc (.cells #[.map (some b)] 49)) fun e w' => ∃ (v : Value) (ss : List Int), e = .returned v ∧ ss.Perm (intKeys D0) ∧
      w'.ownsRow w.heap.size 3 1 v ss.length ((ss.mergeSort (fun x y => decide (x ≤ y))).map encZ) ∧ Below w.heap.size w w' := by
  refine (callsIn_wide (n := 5)).1 ?_
  have hbl := hown.lt
  have hseq : SeqGives Fence.wide 2 Tryz.prog 42 #[.pointer (some ⟨w.heap.size, 0, none⟩)] encZ (fun ss => ss.Perm (intKeys D0)) (Maps.size D0) (w.alloc (.cells #[.map (some b)] 49)) :=
    AnyZI.keys_gives (ρ := keysA_ren) { keysA with } Fence.wide _ trivial rfl (by omega) w.heap.size b nn D0 _ (by simp) (by simp) (by
      obtain ⟨es, clock, hb, Ft, hs, hD⟩ := hown
      exact ⟨es, clock, (Below.heap_alloc _ _ b hbl).trans hb, Ft, hs, hD⟩)
  have cS := AnyZI.sorted_in sortedA Fence.wide 5 trivial trivial trivial trivial rfl (by omega) (sortsA _) (enters_of Tryz.func41 (by kernel_rfl) rfl) 42 #[.pointer (some ⟨w.heap.size, 0, none⟩)] trivial (enters_of Tryz.func42 (by kernel_rfl) rfl) _ _ hmax hbytes _ hseq
  change CallsIn _ _ Tryz.prog 31 _ _ _ at cS
  refine cS.mono ?_
  rintro e w' ⟨v, ss, rfl, hS, hrow, hnil, hb⟩
  exact ⟨v, ss, rfl, hS, ownsRow_base_a hrow (by simp), ((Below.refl _ w).alloc (Nat.le_refl _) _).trans (hb.mono (by simp))⟩
theorem sort_same {l : List Int} (h : l.Pairwise (· < ·)) : l.mergeSort leI = l := by
  have tr : ∀ a b c : Int, leI a b = true → leI b c = true → leI a c = true := fun a b c h1 h2 => by simp only [leI, decide_eq_true_eq] at *; exact Int.le_trans h1 h2
  have tot : ∀ a b : Int, (leI a b || leI b a) = true := fun a b => by simp only [leI, Bool.or_eq_true, decide_eq_true_eq]; exact Int.le_total a b
  refine List.Perm.eq_of_pairwise (le := fun a b => leI a b = true) (fun a b _ _ h1 h2 => ?_) (List.pairwise_mergeSort tr tot l) (h.imp fun {a b} h1 => by simp only [leI, decide_eq_true_eq]; omega) (List.mergeSort_perm l leI)
  simp only [leI, decide_eq_true_eq] at h1 h2
  exact Int.le_antisymm h1 h2
def idsM (st : MS) : List Int := st.snaps.map fun x => x.1
theorem ids_rise {st : MS} (h : Inv st) : (idsM st).Pairwise (· < ·) := List.pairwise_map.2 h.rise
theorem find_some {id : Int} : ∀ {L : List (Int × Mp1)}, (findS id L).isSome = true ↔ id ∈ L.map fun x => x.1
  | [] => by simp [findS]
  | x :: L => by
    unfold findS
    by_cases h : x.1 = id
    · simp [h]
    · rw [if_neg h, find_some, List.map_cons, List.mem_cons]
      exact ⟨.inr, fun h2 => h2.resolve_left fun e => h e.symm⟩
theorem id_wf {x : Int} (h : 1 ≤ x ∧ x ≤ 1073741824) : (Lit.int .i64 x).wf = true := wf_i64 (by omega)
theorem ids_perm {n0 : Nat} {w : World} {p mb : Nat} {st : MS} {A : Int → Nat} (h : Mx n0 w p mb st A) : ∃ (D : DataW Value), w.ownsMap Tryz.prog 3 (gR okP) mb st.snaps.length D ∧ Maps.size D = st.snaps.length ∧ (idsM st).Perm (intKeys D) := by
  obtain ⟨D, h1, h2, hh, h3⟩ := h.map.hasB
  refine ⟨D, h1, h2, ?_⟩
  refine CollectedI.perm (left := fun _ => false) ⟨(ids_rise h.inv).imp fun {a b} e => by omega, fun x => ?_⟩ h1 TI.keyed Tryz.underlying3 fun _ => rfl
  have hsn : (snapL A st.snaps x).isSome = (findS x st.snaps).isSome := by unfold snapL; simp
  constructor
  · intro hx
    obtain ⟨y, hy, rfl⟩ := List.mem_map.1 hx
    refine ⟨?_, rfl⟩
    exact ((hh y.1 (id_wf (h.inv.ids y hy))).trans hsn).trans (find_some.2 hx)
  · rintro ⟨hx, _⟩
    have hw : (Lit.int .i64 x).wf = true := by
      obtain ⟨l, e1, hp⟩ := h1.tidy TI.keyed
      subst e1
      rw [has_eq, List.any_eq_true] at hx
      obtain ⟨q, hq, hs⟩ := hx
      refine intKeys_wf h1 Tryz.underlying3 x (List.mem_map.2 ⟨q, hq, ?_⟩)
      obtain ⟨ql, qd⟩ := q
      cases ql <;> simp [Lit.sameKey] at hs
      exact hs.2
    exact find_some.1 (hsn ▸ (hh x hw).symm.trans hx)
set_option maxRecDepth 100000 in
theorem ids_p {n0 : Nat} {w : World} {p mb : Nat} {st : MS} (h : Ms n0 w p mb st) : Calls Tryz.prog 10 #[.pointer (some ⟨p, 0, none⟩)] w fun e w' => ∃ v, e = .returned v ∧ w'.ownsRow w.heap.size 3 1 v st.snaps.length ((idsM st).map (Value.int .i64)) ∧ Below w.heap.size w w' := by
  obtain ⟨A, hx⟩ := h
  have cm := hx.map_cell
  have hl := hx.inv.len
  have HR := Lib.hid (ids_rise hx.inv)
  obtain ⟨D, h1, h2, h3⟩ := ids_perm hx
  have HO := Lib.hid h1
  have HP := Lib.hid h3
  have HD := Lib.hid h2
  have HL := Lib.hid hl
  clear hx hl h1 h2 h3
  go_enter Tryz.func10, Tryz.ntmps10
  go_wp2_with fail
  refine (keys_c (some mb) w).mono ?_
  rintro e _ ⟨rfl, rfl⟩
  go_wp2_with fail
  refine (sorted_c mb _ D _ w HO.out (by have := HD.out; have := HL.out; unfold maxLen; omega) (by have := HD.out; have := HL.out; omega)).mono ?_
  rintro e w' ⟨v, ss, rfl, hS, hrow, hb⟩
  have HH := Lib.hid (And.intro hS (And.intro hrow hb))
  clear hS hrow hb
  go_wp2_with fail
  go_ret
  obtain ⟨hS, hrow, hb⟩ := HH.out
  have hp := hS.trans HP.out.symm
  have hs : ss.mergeSort (fun x y => decide (x ≤ y)) = idsM st := (mergeSort_of_perm_i hp).trans (sort_same HR.out)
  rw [hs, hp.length_eq] at hrow
  refine ⟨v, rfl, ?_, hb⟩
  have hlen : (idsM st).length = st.snaps.length := by simp [idsM]
  rw [hlen] at hrow
  exact hrow
theorem ids_nil (w : World) : Calls Tryz.prog 10 #[.pointer none] w fun e w' => e = .returned (.slice none 0 0) ∧ w = w' := by
  go_enter Tryz.func10, Tryz.ntmps10
  go_wp2_with fail
  go_ret
  exact ⟨rfl, rfl⟩
end Go.Proofs.YtodhaaaodmcplaaGreat
