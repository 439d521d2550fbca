/- The kit's bag with lists of Freshes, Puts and Ops, and ApartOps at lists of one op each. Printed by genApO.py. -/
import Derived.Test.YthdllbbjajddiaaGreatDoorKe
import Derived.Test.YthdllbbjajddiaaGreatDoorFlF
import Derived.Test.YthdllbbjajddiaaGreatDoorFlP
import Derived.Test.YthdllbbjajddiaaGreatDoorFlO
import Derived.Test.YthdllbbjajddiaaGreatDoorRq
import Derived.Test.YthdllbbjajddiaaGreatDoorLk
set_option linter.all false
namespace Go.Proofs.YthdllbbjajddiaaGreatDoor
open Go.RowKit
def bagO (b1 b2 b3 : Value) : Array Value := #[.slice none 0 0, .slice none 0 0, .slice none 0 0, .slice none 0 0, .slice none 0 0, .slice none 0 0, .slice none 0 0, .slice none 0 0, .slice none 0 0, .slice none 0 0, .slice none 0 0, .slice none 0 0, .slice none 0 0, .slice none 0 0, .slice none 0 0, b1, b2, b3, .slice none 0 0, .slice none 0 0, .slice none 0 0]
theorem not_foot {w : World} {base K k s : Nat} {A : Nat → Option Addr} {n c : Nat → Nat} {e t : TypeId} {mk : Nat → Nat → List Value} {cs : Array Value} {z : Nat × Nat} (hr : ∀ j, j < K → RowAtS e s mk w base (.slice (A j) (n j) (c j)) (n j) j 0) (hb : w.heap[k]? = some (.cells cs t z)) (ht : t ≠ e) : ¬ FootS K (fun j => .slice (A j) (n j) (c j)) k := by
  rintro ⟨j, hj, h⟩
  obtain ⟨F, _, _, _, ho⟩ := hr j hj
  exact row_ne_cells ho hb ht h
theorem not_foot_own {w : World} {base K k s base2 n2 s2 : Nat} {A : Nat → Option Addr} {n c : Nat → Nat} {e t : TypeId} {mk : Nat → Nat → List Value} {v : Value} {xs : List Value} (hr : ∀ j, j < K → RowAtS e s mk w base (.slice (A j) (n j) (c j)) (n j) j 0) (h : w.ownsRow base2 t s2 v n2 xs) (hk : v.ownBlock = some k) (ht : t ≠ e) : ¬ FootS K (fun j => .slice (A j) (n j) (c j)) k := by
  obtain ⟨cs, hc⟩ := own_at h hk
  exact not_foot hr hc ht
theorem foot_low {w : World} {base K k s : Nat} {A : Nat → Option Addr} {n c : Nat → Nat} {e : TypeId} {mk : Nat → Nat → List Value} (hr : ∀ j, j < K → RowAtS e s mk w base (.slice (A j) (n j) (c j)) (n j) j 0) (h : FootS K (fun j => .slice (A j) (n j) (c j)) k) : base ≤ k := by
  obtain ⟨j, hj, h⟩ := h
  obtain ⟨F, _, _, _, ho⟩ := hr j hj
  exact (row_lt ho h).1
set_option maxRecDepth 100000 in
set_option maxHeartbeats 4000000 in
theorem bagApartO (w : World) (base p s1 d1 s2 d2 s3 d3 K : Nat) (A1 : Nat → Option Addr) (n1 c1 : Nat → Nat) (A2 : Nat → Option Addr) (n2 c2 : Nat → Nat) (A3 : Nat → Option Addr) (n3 c3 : Nat → Nat) (hK : K ≤ 1000) (hn : ∀ j, j < K → n1 j ≤ 900000000 ∧ n2 j ≤ 900000000 ∧ n3 j ≤ 900000000)
    (hp : w.heap[p]? = some (.cells (bagO (.slice (some ⟨s1, 0, none⟩) K d1) (.slice (some ⟨s2, 0, none⟩) K d2) (.slice (some ⟨s3, 0, none⟩) K d3)) 114 (0, 0)))
    (hl1 : w.ownsRow base 23 1 (.slice (some ⟨s1, 0, none⟩) K d1) K ((List.range K).map fun j => .slice (A1 j) (n1 j) (c1 j)))
    (hr1 : (∀ j, j < K → RowAtS 53 36 (fun k => FlF.mkQ k) w base (.slice (A1 j) (n1 j) (c1 j)) (n1 j) j 0)) (hd1 : DistS K fun j => .slice (A1 j) (n1 j) (c1 j))
    (hl2 : w.ownsRow base 24 1 (.slice (some ⟨s2, 0, none⟩) K d2) K ((List.range K).map fun j => .slice (A2 j) (n2 j) (c2 j)))
    (hr2 : (∀ j, j < K → RowAtS 48 35 (fun k => FlP.mkQ k) w base (.slice (A2 j) (n2 j) (c2 j)) (n2 j) j 0)) (hd2 : DistS K fun j => .slice (A2 j) (n2 j) (c2 j))
    (hl3 : w.ownsRow base 28 1 (.slice (some ⟨s3, 0, none⟩) K d3) K ((List.range K).map fun j => .slice (A3 j) (n3 j) (c3 j)))
    (hr3 : (∀ j, j < K → RowAtS 26 6 (fun k => FlO.mkQ k) w base (.slice (A3 j) (n3 j) (c3 j)) (n3 j) j 0)) (hd3 : DistS K fun j => .slice (A3 j) (n3 j) (c3 j))
    (hbase : base ≤ w.heap.size) :
    Calls Tryz.prog 46 #[.pointer (some ⟨p, 0, none⟩)] w fun e w' => e = .returned (.bool true) ∧ Below base w w' := by
  have HP : Hid (∀ w' : World, w'.heap[p]? = w.heap[p]? → w'.heap[p]? = some (.cells (bagO (.slice (some ⟨s1, 0, none⟩) K d1) (.slice (some ⟨s2, 0, none⟩) K d2) (.slice (some ⟨s3, 0, none⟩) K d3)) 114 (0, 0))) := Lib.hid fun _ h => h.trans hp
  have HPL := Lib.hid (heap_lt hp)
  have HN := Lib.hid hn
  have HB0 := Lib.hid (Below.refl base w)
  have PP := Lib.hid hp
  have L1 := Lib.hid hl1
  have R1 := Lib.hid hr1
  have D1 := Lib.hid hd1
  have L2 := Lib.hid hl2
  have R2 := Lib.hid hr2
  have D2 := Lib.hid hd2
  have L3 := Lib.hid hl3
  have R3 := Lib.hid hr3
  have D3 := Lib.hid hd3
  have HBZ := Lib.hid hbase
  have hb0 := HP.out w rfl
  have cc0 := block_cell hb0 0 _ rfl
  clear hb0 hp hn hl1 hr1 hd1 hl2 hr2 hd2 hl3 hr3 hd3
  go_enter Tryz.func46, Tryz.ntmps46
  go_wp2_with fail
  refine (flat0_Limbs w).mono ?_
  rintro e w1 ⟨rfl, hb⟩
  have hk := Keeps.fresh (S := fun _ => False) hb
  have HB1 := Lib.hid (HB0.out.trans (hb.mono HBZ.out))
  have PP := Lib.hid (hk.heap PP.out fun h => h)
  have L1 := Lib.hid (hk.row L1.out fun _ _ h => h)
  have R1 : Hid (∀ j, j < K → RowAtS 53 36 (fun k => FlF.mkQ k) w1 base (.slice (A1 j) (n1 j) (c1 j)) (n1 j) j 0) := Lib.hid fun j hj => (R1.out j hj).keeps hk fun _ _ h => h
  have L2 := Lib.hid (hk.row L2.out fun _ _ h => h)
  have R2 : Hid (∀ j, j < K → RowAtS 48 35 (fun k => FlP.mkQ k) w1 base (.slice (A2 j) (n2 j) (c2 j)) (n2 j) j 0) := Lib.hid fun j hj => (R2.out j hj).keeps hk fun _ _ h => h
  have L3 := Lib.hid (hk.row L3.out fun _ _ h => h)
  have R3 : Hid (∀ j, j < K → RowAtS 26 6 (fun k => FlO.mkQ k) w1 base (.slice (A3 j) (n3 j) (c3 j)) (n3 j) j 0) := Lib.hid fun j hj => (R3.out j hj).keeps hk fun _ _ h => h
  have HBZ := Lib.hid (Nat.le_trans HBZ.out hk.size)
  clear hk hb HB0
  clear cc0
  have cc1 := block_cell PP.out 1 _ rfl
  go_wp2_with fail
  refine (flat0_Words w1).mono ?_
  rintro e w2 ⟨rfl, hb⟩
  have hk := Keeps.fresh (S := fun _ => False) hb
  have HB2 := Lib.hid (HB1.out.trans (hb.mono HBZ.out))
  have PP := Lib.hid (hk.heap PP.out fun h => h)
  have L1 := Lib.hid (hk.row L1.out fun _ _ h => h)
  have R1 : Hid (∀ j, j < K → RowAtS 53 36 (fun k => FlF.mkQ k) w2 base (.slice (A1 j) (n1 j) (c1 j)) (n1 j) j 0) := Lib.hid fun j hj => (R1.out j hj).keeps hk fun _ _ h => h
  have L2 := Lib.hid (hk.row L2.out fun _ _ h => h)
  have R2 : Hid (∀ j, j < K → RowAtS 48 35 (fun k => FlP.mkQ k) w2 base (.slice (A2 j) (n2 j) (c2 j)) (n2 j) j 0) := Lib.hid fun j hj => (R2.out j hj).keeps hk fun _ _ h => h
  have L3 := Lib.hid (hk.row L3.out fun _ _ h => h)
  have R3 : Hid (∀ j, j < K → RowAtS 26 6 (fun k => FlO.mkQ k) w2 base (.slice (A3 j) (n3 j) (c3 j)) (n3 j) j 0) := Lib.hid fun j hj => (R3.out j hj).keeps hk fun _ _ h => h
  have HBZ := Lib.hid (Nat.le_trans HBZ.out hk.size)
  clear hk hb HB1
  clear cc1
  have cc2 := block_cell PP.out 2 _ rfl
  go_wp2_with fail
  refine (flat0_Ints w2).mono ?_
  rintro e w3 ⟨rfl, hb⟩
  have hk := Keeps.fresh (S := fun _ => False) hb
  have HB3 := Lib.hid (HB2.out.trans (hb.mono HBZ.out))
  have PP := Lib.hid (hk.heap PP.out fun h => h)
  have L1 := Lib.hid (hk.row L1.out fun _ _ h => h)
  have R1 : Hid (∀ j, j < K → RowAtS 53 36 (fun k => FlF.mkQ k) w3 base (.slice (A1 j) (n1 j) (c1 j)) (n1 j) j 0) := Lib.hid fun j hj => (R1.out j hj).keeps hk fun _ _ h => h
  have L2 := Lib.hid (hk.row L2.out fun _ _ h => h)
  have R2 : Hid (∀ j, j < K → RowAtS 48 35 (fun k => FlP.mkQ k) w3 base (.slice (A2 j) (n2 j) (c2 j)) (n2 j) j 0) := Lib.hid fun j hj => (R2.out j hj).keeps hk fun _ _ h => h
  have L3 := Lib.hid (hk.row L3.out fun _ _ h => h)
  have R3 : Hid (∀ j, j < K → RowAtS 26 6 (fun k => FlO.mkQ k) w3 base (.slice (A3 j) (n3 j) (c3 j)) (n3 j) j 0) := Lib.hid fun j hj => (R3.out j hj).keeps hk fun _ _ h => h
  have HBZ := Lib.hid (Nat.le_trans HBZ.out hk.size)
  clear hk hb HB2
  clear cc2
  have cc3 := block_cell PP.out 3 _ rfl
  go_wp2_with fail
  refine (flat0_Longs w3).mono ?_
  rintro e w4 ⟨rfl, hb⟩
  have hk := Keeps.fresh (S := fun _ => False) hb
  have HB4 := Lib.hid (HB3.out.trans (hb.mono HBZ.out))
  have PP := Lib.hid (hk.heap PP.out fun h => h)
  have L1 := Lib.hid (hk.row L1.out fun _ _ h => h)
  have R1 : Hid (∀ j, j < K → RowAtS 53 36 (fun k => FlF.mkQ k) w4 base (.slice (A1 j) (n1 j) (c1 j)) (n1 j) j 0) := Lib.hid fun j hj => (R1.out j hj).keeps hk fun _ _ h => h
  have L2 := Lib.hid (hk.row L2.out fun _ _ h => h)
  have R2 : Hid (∀ j, j < K → RowAtS 48 35 (fun k => FlP.mkQ k) w4 base (.slice (A2 j) (n2 j) (c2 j)) (n2 j) j 0) := Lib.hid fun j hj => (R2.out j hj).keeps hk fun _ _ h => h
  have L3 := Lib.hid (hk.row L3.out fun _ _ h => h)
  have R3 : Hid (∀ j, j < K → RowAtS 26 6 (fun k => FlO.mkQ k) w4 base (.slice (A3 j) (n3 j) (c3 j)) (n3 j) j 0) := Lib.hid fun j hj => (R3.out j hj).keeps hk fun _ _ h => h
  have HBZ := Lib.hid (Nat.le_trans HBZ.out hk.size)
  clear hk hb HB3
  clear cc3
  have cc4 := block_cell PP.out 4 _ rfl
  go_wp2_with fail
  refine (flat0_Texts w4).mono ?_
  rintro e w5 ⟨rfl, hb⟩
  have hk := Keeps.fresh (S := fun _ => False) hb
  have HB5 := Lib.hid (HB4.out.trans (hb.mono HBZ.out))
  have PP := Lib.hid (hk.heap PP.out fun h => h)
  have L1 := Lib.hid (hk.row L1.out fun _ _ h => h)
  have R1 : Hid (∀ j, j < K → RowAtS 53 36 (fun k => FlF.mkQ k) w5 base (.slice (A1 j) (n1 j) (c1 j)) (n1 j) j 0) := Lib.hid fun j hj => (R1.out j hj).keeps hk fun _ _ h => h
  have L2 := Lib.hid (hk.row L2.out fun _ _ h => h)
  have R2 : Hid (∀ j, j < K → RowAtS 48 35 (fun k => FlP.mkQ k) w5 base (.slice (A2 j) (n2 j) (c2 j)) (n2 j) j 0) := Lib.hid fun j hj => (R2.out j hj).keeps hk fun _ _ h => h
  have L3 := Lib.hid (hk.row L3.out fun _ _ h => h)
  have R3 : Hid (∀ j, j < K → RowAtS 26 6 (fun k => FlO.mkQ k) w5 base (.slice (A3 j) (n3 j) (c3 j)) (n3 j) j 0) := Lib.hid fun j hj => (R3.out j hj).keeps hk fun _ _ h => h
  have HBZ := Lib.hid (Nat.le_trans HBZ.out hk.size)
  clear hk hb HB4
  clear cc4
  have cc5 := block_cell PP.out 5 _ rfl
  go_wp2_with fail
  refine (flat0_Bytes w5).mono ?_
  rintro e w6 ⟨rfl, hb⟩
  have hk := Keeps.fresh (S := fun _ => False) hb
  have HB6 := Lib.hid (HB5.out.trans (hb.mono HBZ.out))
  have PP := Lib.hid (hk.heap PP.out fun h => h)
  have L1 := Lib.hid (hk.row L1.out fun _ _ h => h)
  have R1 : Hid (∀ j, j < K → RowAtS 53 36 (fun k => FlF.mkQ k) w6 base (.slice (A1 j) (n1 j) (c1 j)) (n1 j) j 0) := Lib.hid fun j hj => (R1.out j hj).keeps hk fun _ _ h => h
  have L2 := Lib.hid (hk.row L2.out fun _ _ h => h)
  have R2 : Hid (∀ j, j < K → RowAtS 48 35 (fun k => FlP.mkQ k) w6 base (.slice (A2 j) (n2 j) (c2 j)) (n2 j) j 0) := Lib.hid fun j hj => (R2.out j hj).keeps hk fun _ _ h => h
  have L3 := Lib.hid (hk.row L3.out fun _ _ h => h)
  have R3 : Hid (∀ j, j < K → RowAtS 26 6 (fun k => FlO.mkQ k) w6 base (.slice (A3 j) (n3 j) (c3 j)) (n3 j) j 0) := Lib.hid fun j hj => (R3.out j hj).keeps hk fun _ _ h => h
  have HBZ := Lib.hid (Nat.le_trans HBZ.out hk.size)
  clear hk hb HB5
  clear cc5
  have cc6 := block_cell PP.out 6 _ rfl
  go_wp2_with fail
  refine (flat0_TreeKeys w6).mono ?_
  rintro e w7 ⟨rfl, hb⟩
  have hk := Keeps.fresh (S := fun _ => False) hb
  have HB7 := Lib.hid (HB6.out.trans (hb.mono HBZ.out))
  have PP := Lib.hid (hk.heap PP.out fun h => h)
  have L1 := Lib.hid (hk.row L1.out fun _ _ h => h)
  have R1 : Hid (∀ j, j < K → RowAtS 53 36 (fun k => FlF.mkQ k) w7 base (.slice (A1 j) (n1 j) (c1 j)) (n1 j) j 0) := Lib.hid fun j hj => (R1.out j hj).keeps hk fun _ _ h => h
  have L2 := Lib.hid (hk.row L2.out fun _ _ h => h)
  have R2 : Hid (∀ j, j < K → RowAtS 48 35 (fun k => FlP.mkQ k) w7 base (.slice (A2 j) (n2 j) (c2 j)) (n2 j) j 0) := Lib.hid fun j hj => (R2.out j hj).keeps hk fun _ _ h => h
  have L3 := Lib.hid (hk.row L3.out fun _ _ h => h)
  have R3 : Hid (∀ j, j < K → RowAtS 26 6 (fun k => FlO.mkQ k) w7 base (.slice (A3 j) (n3 j) (c3 j)) (n3 j) j 0) := Lib.hid fun j hj => (R3.out j hj).keeps hk fun _ _ h => h
  have HBZ := Lib.hid (Nat.le_trans HBZ.out hk.size)
  clear hk hb HB6
  clear cc6
  have cc7 := block_cell PP.out 7 _ rfl
  go_wp2_with fail
  refine (flat0_Pieces w7).mono ?_
  rintro e w8 ⟨rfl, hb⟩
  have hk := Keeps.fresh (S := fun _ => False) hb
  have HB8 := Lib.hid (HB7.out.trans (hb.mono HBZ.out))
  have PP := Lib.hid (hk.heap PP.out fun h => h)
  have L1 := Lib.hid (hk.row L1.out fun _ _ h => h)
  have R1 : Hid (∀ j, j < K → RowAtS 53 36 (fun k => FlF.mkQ k) w8 base (.slice (A1 j) (n1 j) (c1 j)) (n1 j) j 0) := Lib.hid fun j hj => (R1.out j hj).keeps hk fun _ _ h => h
  have L2 := Lib.hid (hk.row L2.out fun _ _ h => h)
  have R2 : Hid (∀ j, j < K → RowAtS 48 35 (fun k => FlP.mkQ k) w8 base (.slice (A2 j) (n2 j) (c2 j)) (n2 j) j 0) := Lib.hid fun j hj => (R2.out j hj).keeps hk fun _ _ h => h
  have L3 := Lib.hid (hk.row L3.out fun _ _ h => h)
  have R3 : Hid (∀ j, j < K → RowAtS 26 6 (fun k => FlO.mkQ k) w8 base (.slice (A3 j) (n3 j) (c3 j)) (n3 j) j 0) := Lib.hid fun j hj => (R3.out j hj).keeps hk fun _ _ h => h
  have HBZ := Lib.hid (Nat.le_trans HBZ.out hk.size)
  clear hk hb HB7
  clear cc7
  have cc8 := block_cell PP.out 8 _ rfl
  go_wp2_with fail
  refine (flat0_Fates w8).mono ?_
  rintro e w9 ⟨rfl, hb⟩
  have hk := Keeps.fresh (S := fun _ => False) hb
  have HB9 := Lib.hid (HB8.out.trans (hb.mono HBZ.out))
  have PP := Lib.hid (hk.heap PP.out fun h => h)
  have L1 := Lib.hid (hk.row L1.out fun _ _ h => h)
  have R1 : Hid (∀ j, j < K → RowAtS 53 36 (fun k => FlF.mkQ k) w9 base (.slice (A1 j) (n1 j) (c1 j)) (n1 j) j 0) := Lib.hid fun j hj => (R1.out j hj).keeps hk fun _ _ h => h
  have L2 := Lib.hid (hk.row L2.out fun _ _ h => h)
  have R2 : Hid (∀ j, j < K → RowAtS 48 35 (fun k => FlP.mkQ k) w9 base (.slice (A2 j) (n2 j) (c2 j)) (n2 j) j 0) := Lib.hid fun j hj => (R2.out j hj).keeps hk fun _ _ h => h
  have L3 := Lib.hid (hk.row L3.out fun _ _ h => h)
  have R3 : Hid (∀ j, j < K → RowAtS 26 6 (fun k => FlO.mkQ k) w9 base (.slice (A3 j) (n3 j) (c3 j)) (n3 j) j 0) := Lib.hid fun j hj => (R3.out j hj).keeps hk fun _ _ h => h
  have HBZ := Lib.hid (Nat.le_trans HBZ.out hk.size)
  clear hk hb HB8
  clear cc8
  have cc9 := block_cell PP.out 9 _ rfl
  go_wp2_with fail
  refine (flat0_Frames w9).mono ?_
  rintro e w10 ⟨rfl, hb⟩
  have hk := Keeps.fresh (S := fun _ => False) hb
  have HB10 := Lib.hid (HB9.out.trans (hb.mono HBZ.out))
  have PP := Lib.hid (hk.heap PP.out fun h => h)
  have L1 := Lib.hid (hk.row L1.out fun _ _ h => h)
  have R1 : Hid (∀ j, j < K → RowAtS 53 36 (fun k => FlF.mkQ k) w10 base (.slice (A1 j) (n1 j) (c1 j)) (n1 j) j 0) := Lib.hid fun j hj => (R1.out j hj).keeps hk fun _ _ h => h
  have L2 := Lib.hid (hk.row L2.out fun _ _ h => h)
  have R2 : Hid (∀ j, j < K → RowAtS 48 35 (fun k => FlP.mkQ k) w10 base (.slice (A2 j) (n2 j) (c2 j)) (n2 j) j 0) := Lib.hid fun j hj => (R2.out j hj).keeps hk fun _ _ h => h
  have L3 := Lib.hid (hk.row L3.out fun _ _ h => h)
  have R3 : Hid (∀ j, j < K → RowAtS 26 6 (fun k => FlO.mkQ k) w10 base (.slice (A3 j) (n3 j) (c3 j)) (n3 j) j 0) := Lib.hid fun j hj => (R3.out j hj).keeps hk fun _ _ h => h
  have HBZ := Lib.hid (Nat.le_trans HBZ.out hk.size)
  clear hk hb HB9
  clear cc9
  have cc10 := block_cell PP.out 10 _ rfl
  go_wp2_with fail
  refine (flat0_Places w10).mono ?_
  rintro e w11 ⟨rfl, hb⟩
  have hk := Keeps.fresh (S := fun _ => False) hb
  have HB11 := Lib.hid (HB10.out.trans (hb.mono HBZ.out))
  have PP := Lib.hid (hk.heap PP.out fun h => h)
  have L1 := Lib.hid (hk.row L1.out fun _ _ h => h)
  have R1 : Hid (∀ j, j < K → RowAtS 53 36 (fun k => FlF.mkQ k) w11 base (.slice (A1 j) (n1 j) (c1 j)) (n1 j) j 0) := Lib.hid fun j hj => (R1.out j hj).keeps hk fun _ _ h => h
  have L2 := Lib.hid (hk.row L2.out fun _ _ h => h)
  have R2 : Hid (∀ j, j < K → RowAtS 48 35 (fun k => FlP.mkQ k) w11 base (.slice (A2 j) (n2 j) (c2 j)) (n2 j) j 0) := Lib.hid fun j hj => (R2.out j hj).keeps hk fun _ _ h => h
  have L3 := Lib.hid (hk.row L3.out fun _ _ h => h)
  have R3 : Hid (∀ j, j < K → RowAtS 26 6 (fun k => FlO.mkQ k) w11 base (.slice (A3 j) (n3 j) (c3 j)) (n3 j) j 0) := Lib.hid fun j hj => (R3.out j hj).keeps hk fun _ _ h => h
  have HBZ := Lib.hid (Nat.le_trans HBZ.out hk.size)
  clear hk hb HB10
  clear cc10
  have cc11 := block_cell PP.out 11 _ rfl
  go_wp2_with fail
  refine (flat0_Entries w11).mono ?_
  rintro e w12 ⟨rfl, hb⟩
  have hk := Keeps.fresh (S := fun _ => False) hb
  have HB12 := Lib.hid (HB11.out.trans (hb.mono HBZ.out))
  have PP := Lib.hid (hk.heap PP.out fun h => h)
  have L1 := Lib.hid (hk.row L1.out fun _ _ h => h)
  have R1 : Hid (∀ j, j < K → RowAtS 53 36 (fun k => FlF.mkQ k) w12 base (.slice (A1 j) (n1 j) (c1 j)) (n1 j) j 0) := Lib.hid fun j hj => (R1.out j hj).keeps hk fun _ _ h => h
  have L2 := Lib.hid (hk.row L2.out fun _ _ h => h)
  have R2 : Hid (∀ j, j < K → RowAtS 48 35 (fun k => FlP.mkQ k) w12 base (.slice (A2 j) (n2 j) (c2 j)) (n2 j) j 0) := Lib.hid fun j hj => (R2.out j hj).keeps hk fun _ _ h => h
  have L3 := Lib.hid (hk.row L3.out fun _ _ h => h)
  have R3 : Hid (∀ j, j < K → RowAtS 26 6 (fun k => FlO.mkQ k) w12 base (.slice (A3 j) (n3 j) (c3 j)) (n3 j) j 0) := Lib.hid fun j hj => (R3.out j hj).keeps hk fun _ _ h => h
  have HBZ := Lib.hid (Nat.le_trans HBZ.out hk.size)
  clear hk hb HB11
  clear cc11
  have cc12 := block_cell PP.out 12 _ rfl
  go_wp2_with fail
  refine (flat0_Nodes w12).mono ?_
  rintro e w13 ⟨rfl, hb⟩
  have hk := Keeps.fresh (S := fun _ => False) hb
  have HB13 := Lib.hid (HB12.out.trans (hb.mono HBZ.out))
  have PP := Lib.hid (hk.heap PP.out fun h => h)
  have L1 := Lib.hid (hk.row L1.out fun _ _ h => h)
  have R1 : Hid (∀ j, j < K → RowAtS 53 36 (fun k => FlF.mkQ k) w13 base (.slice (A1 j) (n1 j) (c1 j)) (n1 j) j 0) := Lib.hid fun j hj => (R1.out j hj).keeps hk fun _ _ h => h
  have L2 := Lib.hid (hk.row L2.out fun _ _ h => h)
  have R2 : Hid (∀ j, j < K → RowAtS 48 35 (fun k => FlP.mkQ k) w13 base (.slice (A2 j) (n2 j) (c2 j)) (n2 j) j 0) := Lib.hid fun j hj => (R2.out j hj).keeps hk fun _ _ h => h
  have L3 := Lib.hid (hk.row L3.out fun _ _ h => h)
  have R3 : Hid (∀ j, j < K → RowAtS 26 6 (fun k => FlO.mkQ k) w13 base (.slice (A3 j) (n3 j) (c3 j)) (n3 j) j 0) := Lib.hid fun j hj => (R3.out j hj).keeps hk fun _ _ h => h
  have HBZ := Lib.hid (Nat.le_trans HBZ.out hk.size)
  clear hk hb HB12
  clear cc12
  have cc13 := block_cell PP.out 13 _ rfl
  go_wp2_with fail
  refine (flat0_Items w13).mono ?_
  rintro e w14 ⟨rfl, hb⟩
  have hk := Keeps.fresh (S := fun _ => False) hb
  have HB14 := Lib.hid (HB13.out.trans (hb.mono HBZ.out))
  have PP := Lib.hid (hk.heap PP.out fun h => h)
  have L1 := Lib.hid (hk.row L1.out fun _ _ h => h)
  have R1 : Hid (∀ j, j < K → RowAtS 53 36 (fun k => FlF.mkQ k) w14 base (.slice (A1 j) (n1 j) (c1 j)) (n1 j) j 0) := Lib.hid fun j hj => (R1.out j hj).keeps hk fun _ _ h => h
  have L2 := Lib.hid (hk.row L2.out fun _ _ h => h)
  have R2 : Hid (∀ j, j < K → RowAtS 48 35 (fun k => FlP.mkQ k) w14 base (.slice (A2 j) (n2 j) (c2 j)) (n2 j) j 0) := Lib.hid fun j hj => (R2.out j hj).keeps hk fun _ _ h => h
  have L3 := Lib.hid (hk.row L3.out fun _ _ h => h)
  have R3 : Hid (∀ j, j < K → RowAtS 26 6 (fun k => FlO.mkQ k) w14 base (.slice (A3 j) (n3 j) (c3 j)) (n3 j) j 0) := Lib.hid fun j hj => (R3.out j hj).keeps hk fun _ _ h => h
  have HBZ := Lib.hid (Nat.le_trans HBZ.out hk.size)
  clear hk hb HB13
  clear cc13
  have cc14 := block_cell PP.out 14 _ rfl
  go_wp2_with fail
  refine (flat0_Counts w14).mono ?_
  rintro e w15 ⟨rfl, hb⟩
  have hk := Keeps.fresh (S := fun _ => False) hb
  have HB15 := Lib.hid (HB14.out.trans (hb.mono HBZ.out))
  have PP := Lib.hid (hk.heap PP.out fun h => h)
  have L1 := Lib.hid (hk.row L1.out fun _ _ h => h)
  have R1 : Hid (∀ j, j < K → RowAtS 53 36 (fun k => FlF.mkQ k) w15 base (.slice (A1 j) (n1 j) (c1 j)) (n1 j) j 0) := Lib.hid fun j hj => (R1.out j hj).keeps hk fun _ _ h => h
  have L2 := Lib.hid (hk.row L2.out fun _ _ h => h)
  have R2 : Hid (∀ j, j < K → RowAtS 48 35 (fun k => FlP.mkQ k) w15 base (.slice (A2 j) (n2 j) (c2 j)) (n2 j) j 0) := Lib.hid fun j hj => (R2.out j hj).keeps hk fun _ _ h => h
  have L3 := Lib.hid (hk.row L3.out fun _ _ h => h)
  have R3 : Hid (∀ j, j < K → RowAtS 26 6 (fun k => FlO.mkQ k) w15 base (.slice (A3 j) (n3 j) (c3 j)) (n3 j) j 0) := Lib.hid fun j hj => (R3.out j hj).keeps hk fun _ _ h => h
  have HBZ := Lib.hid (Nat.le_trans HBZ.out hk.size)
  clear hk hb HB14
  clear cc14
  have cc15 := block_cell PP.out 15 _ rfl
  go_wp2_with fail
  refine (FlF.flatP w15 base s1 d1 K A1 n1 c1 hK (fun j hj => (HN.out j hj).1) L1.out R1.out D1.out HBZ.out).mono ?_
  rintro e w16 ⟨rfl, hk⟩
  have HB16 := Lib.hid (HB15.out.trans (hk.below (fun k h => foot_low R1.out h) HBZ.out))
  have PP := Lib.hid (hk.heap PP.out (not_foot R1.out PP.out (by decide)))
  have L2 := Lib.hid (hk.row L2.out fun k h1 => not_foot_own R1.out L2.out h1 (by decide))
  have R2 : Hid (∀ j, j < K → RowAtS 48 35 (fun k => FlP.mkQ k) w16 base (.slice (A2 j) (n2 j) (c2 j)) (n2 j) j 0) := Lib.hid fun j hj => (R2.out j hj).keeps hk fun g h1 => by
    obtain ⟨F, _, _, _, ho⟩ := R2.out j hj
    exact not_foot_own R1.out ho h1 (by decide)
  have L3 := Lib.hid (hk.row L3.out fun k h1 => not_foot_own R1.out L3.out h1 (by decide))
  have R3 : Hid (∀ j, j < K → RowAtS 26 6 (fun k => FlO.mkQ k) w16 base (.slice (A3 j) (n3 j) (c3 j)) (n3 j) j 0) := Lib.hid fun j hj => (R3.out j hj).keeps hk fun g h1 => by
    obtain ⟨F, _, _, _, ho⟩ := R3.out j hj
    exact not_foot_own R1.out ho h1 (by decide)
  have HBZ := Lib.hid (Nat.le_trans HBZ.out hk.size)
  clear hk L1 R1 D1 HB15
  clear cc15
  have cc16 := block_cell PP.out 16 _ rfl
  go_wp2_with fail
  refine (FlP.flatP w16 base s2 d2 K A2 n2 c2 hK (fun j hj => (HN.out j hj).2.1) L2.out R2.out D2.out HBZ.out).mono ?_
  rintro e w17 ⟨rfl, hk⟩
  have HB17 := Lib.hid (HB16.out.trans (hk.below (fun k h => foot_low R2.out h) HBZ.out))
  have PP := Lib.hid (hk.heap PP.out (not_foot R2.out PP.out (by decide)))
  have L3 := Lib.hid (hk.row L3.out fun k h1 => not_foot_own R2.out L3.out h1 (by decide))
  have R3 : Hid (∀ j, j < K → RowAtS 26 6 (fun k => FlO.mkQ k) w17 base (.slice (A3 j) (n3 j) (c3 j)) (n3 j) j 0) := Lib.hid fun j hj => (R3.out j hj).keeps hk fun g h1 => by
    obtain ⟨F, _, _, _, ho⟩ := R3.out j hj
    exact not_foot_own R2.out ho h1 (by decide)
  have HBZ := Lib.hid (Nat.le_trans HBZ.out hk.size)
  clear hk L2 R2 D2 HB16
  clear cc16
  have cc17 := block_cell PP.out 17 _ rfl
  go_wp2_with fail
  refine (FlO.flatP w17 base s3 d3 K A3 n3 c3 hK (fun j hj => (HN.out j hj).2.2) L3.out R3.out D3.out HBZ.out).mono ?_
  rintro e w18 ⟨rfl, hk⟩
  have HB18 := Lib.hid (HB17.out.trans (hk.below (fun k h => foot_low R3.out h) HBZ.out))
  have PP := Lib.hid (hk.heap PP.out (not_foot R3.out PP.out (by decide)))
  have HBZ := Lib.hid (Nat.le_trans HBZ.out hk.size)
  clear hk L3 R3 D3 HB17
  clear cc17
  have cc18 := block_cell PP.out 18 _ rfl
  go_wp2_with fail
  refine (flat0_Steps w18).mono ?_
  rintro e w19 ⟨rfl, hb⟩
  have hk := Keeps.fresh (S := fun _ => False) hb
  have HB19 := Lib.hid (HB18.out.trans (hb.mono HBZ.out))
  have PP := Lib.hid (hk.heap PP.out fun h => h)
  have HBZ := Lib.hid (Nat.le_trans HBZ.out hk.size)
  clear hk hb HB18
  clear cc18
  have cc19 := block_cell PP.out 19 _ rfl
  go_wp2_with fail
  refine (flat0_Stats w19).mono ?_
  rintro e w20 ⟨rfl, hb⟩
  have hk := Keeps.fresh (S := fun _ => False) hb
  have HB20 := Lib.hid (HB19.out.trans (hb.mono HBZ.out))
  have PP := Lib.hid (hk.heap PP.out fun h => h)
  have HBZ := Lib.hid (Nat.le_trans HBZ.out hk.size)
  clear hk hb HB19
  clear cc19
  have cc20 := block_cell PP.out 20 _ rfl
  go_wp2_with fail
  refine (flat0_Tales w20).mono ?_
  rintro e w21 ⟨rfl, hb⟩
  have hk := Keeps.fresh (S := fun _ => False) hb
  have HB21 := Lib.hid (HB20.out.trans (hb.mono HBZ.out))
  have PP := Lib.hid (hk.heap PP.out fun h => h)
  have HBZ := Lib.hid (Nat.le_trans HBZ.out hk.size)
  clear hk hb HB20
  go_wp2_with fail
  go_ret
  exact ⟨rfl, HB21.out⟩
/-- A bag while lists are put into it. -/
structure BagO (w0 w : World) (p : Nat) (b1 b2 b3 : Value) (k1 k2 k3 : Nat) (v1 v2 v3 : Nat → Value) : Prop where
  blk : w.heap[p]? = some (.cells (bagO b1 b2 b3) 114 (0, 0))
  row1 : w.ownsRow w0.heap.size 23 1 b1 k1 ((List.range k1).map v1)
  row2 : w.ownsRow w0.heap.size 24 1 b2 k2 ((List.range k2).map v2)
  row3 : w.ownsRow w0.heap.size 28 1 b3 k3 ((List.range k3).map v3)
  kept : Keeps (fun _ => False) w0 w
  low : w0.heap.size ≤ p
theorem BagO.fresh {w0 w w2 : World} {p : Nat} {b1 b2 b3 : Value} {k1 k2 k3 : Nat} {v1 v2 v3 : Nat → Value} (h : BagO w0 w p b1 b2 b3 k1 k2 k3 v1 v2 v3) (hb : Below w.heap.size w w2) : BagO w0 w2 p b1 b2 b3 k1 k2 k3 v1 v2 v3 :=
  ⟨(hb.block p (heap_lt h.blk)).trans h.blk, (Keeps.fresh (S := fun _ => False) hb).row h.row1 fun _ _ h => h, (Keeps.fresh (S := fun _ => False) hb).row h.row2 fun _ _ h => h, (Keeps.fresh (S := fun _ => False) hb).row h.row3 fun _ _ h => h, h.kept.trans (Keeps.fresh hb) fun _ _ h => h, h.low⟩
/-- A row of the bag grows, and its slice is stored. -/
theorem BagO.grow1 {w0 w w1 : World} {p : Nat} {b1 b2 b3 : Value} {k1 k2 k3 : Nat} {v1 v2 v3 : Nat → Value} (h : BagO w0 w p b1 b2 b3 k1 k2 k3 v1 v2 v3) {g cap : Nat} {ob : Obj} {u : Value} (hu : v1 k1 = u)
    (ho : w1.ownsRow w0.heap.size 23 1 (.slice (some ⟨g, 0, none⟩) (k1 + 1) cap) (k1 + 1) ((List.range k1).map v1 ++ [u])) (hg : (w.alloc ob).grownBy w1 b1.ownBlock) (ht : b1.ownBlock = some g ∨ g = (w.alloc ob).heap.size) :
    BagO w0 (w1.setCell ⟨p, 15, none⟩ (.slice (some ⟨g, 0, none⟩) (k1 + 1) cap)) p (.slice (some ⟨g, 0, none⟩) (k1 + 1) cap) b2 b3 (k1 + 1) k2 k3 v1 v2 v3 ∧ Keeps (fun x => x = p ∨ b1.ownBlock = some x) w (w1.setCell ⟨p, 15, none⟩ (.slice (some ⟨g, 0, none⟩) (k1 + 1) cap)) := by
  have hpl := heap_lt h.blk
  have n1 : b1.ownBlock ≠ some p := row_ne_cells h.row1 h.blk (by decide)
  have n2 : b2.ownBlock ≠ some p := row_ne_cells h.row2 h.blk (by decide)
  have n3 : b3.ownBlock ≠ some p := row_ne_cells h.row3 h.blk (by decide)
  have hb1 := (hg.block p (by simp; omega) fun e => n1 e.symm).trans (heap_old h.blk)
  have hk : Keeps (fun x => b1.ownBlock = some x) w w1 := (Keeps.alloc _ w _).trans (Keeps.grown hg fun _ e => e) fun _ _ h => h
  have hst : Keeps (fun x => x = p) w1 (w1.setCell ⟨p, 15, none⟩ (.slice (some ⟨g, 0, none⟩) (k1 + 1) cap)) := Keeps.setCell (fun x => x = p) w1 ⟨p, 15, none⟩ _ rfl
  have e : (List.range k1).map v1 ++ [u] = (List.range (k1 + 1)).map v1 := by rw [List.range_succ, List.map_append, ← hu]; rfl
  rw [e] at ho
  have r2 := hk.row h.row2 fun k h1 h2 => own_ne h.row2 h.row1 (by decide) h1 h2
  have r2 := hst.row r2 fun k h1 h2 => n2 (h2 ▸ h1)
  have r3 := hk.row h.row3 fun k h1 h2 => own_ne h.row3 h.row1 (by decide) h1 h2
  have r3 := hst.row r3 fun k h1 h2 => n3 (h2 ▸ h1)
  have r1 := hst.row ho fun x hx e2 => by
    have e3 : g = p := by
      have : some g = some x := hx
      injection this with this
      rw [this, e2]
    subst e3
    rcases ht with h1 | h1
    · exact n1 h1
    · simp at h1; omega
  exact ⟨⟨heap_setCell_same w1 p 15 _ _ _ hb1, r1, r2, r3, (h.kept.trans hk fun x hx hx2 => by have := (row_lt h.row1 hx2).1; omega).trans hst fun x hx e => by have := h.low; omega, h.low⟩, (hk.mono fun _ _ h => .inr h).trans hst fun _ _ h => .inl h⟩
set_option maxRecDepth 100000 in
theorem putO1 (w0 w : World) (p : Nat) (b1 b2 b3 : Value) (k1 k2 k3 : Nat) (v1 v2 v3 : Nat → Value) (A : Option Addr) (n c : Nat) (hv : v1 k1 = .slice A n c) (hk : k1 ≤ 1000) (h : BagO w0 w p b1 b2 b3 k1 k2 k3 v1 v2 v3) :
    Calls Tryz.prog 79 #[.pointer (some ⟨p, 0, none⟩), .slice A n c] w fun e w' => e = .returned undef ∧ (∃ b', BagO w0 w' p b' b2 b3 (k1 + 1) k2 k3 v1 v2 v3) ∧ Keeps (fun x => x = p ∨ b1.ownBlock = some x) w w' := by
  obtain ⟨i0, hi0, hz0, hz1, hz2⟩ := infoParts infoS_Freshes
  have H := Lib.hid h
  have HV := Lib.hid hv
  have c0 := block_cell h.blk 15 b1 rfl
  have hsz := h.kept.size
  have HW := Lib.hid (heap_lt h.blk)
  have HNE : Hid (b1.ownBlock ≠ some p) := Lib.hid (row_ne_cells h.row1 h.blk (by decide))
  clear h hv
  go_enter Tryz.func79, Tryz.ntmps79
  go_wp2_with (at_builtin; refine wpList_append_lies _ rfl (.tmp 8) (.tmp 10) 108 rfl w0.heap.size 23 i0 (.slice none 0 0) 1 24 Tryz.underlying108 hi0 hz0 hz1 hz2 rfl (by omega) b1 k1 _ rfl (H.out.row1.alloc _) ⟨w.heap.size, 0, none⟩ 1 1 [.slice A n c] rfl rfl (cell_one_new _ _ _) (by simp [Value.oneCell']) (by omega) (by unfold maxLen; omega) (by omega) (by simp; omega) _ rfl ?_; intro g cap w1 hown hg hat _; have HB1 := Lib.hid ((hg.block p (by simp; have := HW.out; omega) fun e => HNE.out e.symm).trans (heap_old H.out.blk)); have HO := Lib.hid hown; have HG := Lib.hid hg; have HT := Lib.hid hat; have d0 := block_cell HB1.out 15 b1 rfl; have f0 := frozen_of_row w1 p 15 _ _ HB1.out; clear hown hg hat)
  refine bodyPost_end (results_none rfl _ _ _) rfl ?_
  have hgr := H.out.grow1 HV.out HO.out HG.out HT.out
  exact ⟨rfl, ⟨_, hgr.1⟩, hgr.2⟩
/-- A row of the bag grows, and its slice is stored. -/
theorem BagO.grow2 {w0 w w1 : World} {p : Nat} {b1 b2 b3 : Value} {k1 k2 k3 : Nat} {v1 v2 v3 : Nat → Value} (h : BagO w0 w p b1 b2 b3 k1 k2 k3 v1 v2 v3) {g cap : Nat} {ob : Obj} {u : Value} (hu : v2 k2 = u)
    (ho : w1.ownsRow w0.heap.size 24 1 (.slice (some ⟨g, 0, none⟩) (k2 + 1) cap) (k2 + 1) ((List.range k2).map v2 ++ [u])) (hg : (w.alloc ob).grownBy w1 b2.ownBlock) (ht : b2.ownBlock = some g ∨ g = (w.alloc ob).heap.size) :
    BagO w0 (w1.setCell ⟨p, 16, none⟩ (.slice (some ⟨g, 0, none⟩) (k2 + 1) cap)) p b1 (.slice (some ⟨g, 0, none⟩) (k2 + 1) cap) b3 k1 (k2 + 1) k3 v1 v2 v3 ∧ Keeps (fun x => x = p ∨ b2.ownBlock = some x) w (w1.setCell ⟨p, 16, none⟩ (.slice (some ⟨g, 0, none⟩) (k2 + 1) cap)) := by
  have hpl := heap_lt h.blk
  have n1 : b1.ownBlock ≠ some p := row_ne_cells h.row1 h.blk (by decide)
  have n2 : b2.ownBlock ≠ some p := row_ne_cells h.row2 h.blk (by decide)
  have n3 : b3.ownBlock ≠ some p := row_ne_cells h.row3 h.blk (by decide)
  have hb1 := (hg.block p (by simp; omega) fun e => n2 e.symm).trans (heap_old h.blk)
  have hk : Keeps (fun x => b2.ownBlock = some x) w w1 := (Keeps.alloc _ w _).trans (Keeps.grown hg fun _ e => e) fun _ _ h => h
  have hst : Keeps (fun x => x = p) w1 (w1.setCell ⟨p, 16, none⟩ (.slice (some ⟨g, 0, none⟩) (k2 + 1) cap)) := Keeps.setCell (fun x => x = p) w1 ⟨p, 16, none⟩ _ rfl
  have e : (List.range k2).map v2 ++ [u] = (List.range (k2 + 1)).map v2 := by rw [List.range_succ, List.map_append, ← hu]; rfl
  rw [e] at ho
  have r1 := hk.row h.row1 fun k h1 h2 => own_ne h.row1 h.row2 (by decide) h1 h2
  have r1 := hst.row r1 fun k h1 h2 => n1 (h2 ▸ h1)
  have r3 := hk.row h.row3 fun k h1 h2 => own_ne h.row3 h.row2 (by decide) h1 h2
  have r3 := hst.row r3 fun k h1 h2 => n3 (h2 ▸ h1)
  have r2 := hst.row ho fun x hx e2 => by
    have e3 : g = p := by
      have : some g = some x := hx
      injection this with this
      rw [this, e2]
    subst e3
    rcases ht with h1 | h1
    · exact n2 h1
    · simp at h1; omega
  exact ⟨⟨heap_setCell_same w1 p 16 _ _ _ hb1, r1, r2, r3, (h.kept.trans hk fun x hx hx2 => by have := (row_lt h.row2 hx2).1; omega).trans hst fun x hx e => by have := h.low; omega, h.low⟩, (hk.mono fun _ _ h => .inr h).trans hst fun _ _ h => .inl h⟩
set_option maxRecDepth 100000 in
theorem putO2 (w0 w : World) (p : Nat) (b1 b2 b3 : Value) (k1 k2 k3 : Nat) (v1 v2 v3 : Nat → Value) (A : Option Addr) (n c : Nat) (hv : v2 k2 = .slice A n c) (hk : k2 ≤ 1000) (h : BagO w0 w p b1 b2 b3 k1 k2 k3 v1 v2 v3) :
    Calls Tryz.prog 80 #[.pointer (some ⟨p, 0, none⟩), .slice A n c] w fun e w' => e = .returned undef ∧ (∃ b', BagO w0 w' p b1 b' b3 k1 (k2 + 1) k3 v1 v2 v3) ∧ Keeps (fun x => x = p ∨ b2.ownBlock = some x) w w' := by
  obtain ⟨i0, hi0, hz0, hz1, hz2⟩ := infoParts infoS_Puts
  have H := Lib.hid h
  have HV := Lib.hid hv
  have c0 := block_cell h.blk 16 b2 rfl
  have hsz := h.kept.size
  have HW := Lib.hid (heap_lt h.blk)
  have HNE : Hid (b2.ownBlock ≠ some p) := Lib.hid (row_ne_cells h.row2 h.blk (by decide))
  clear h hv
  go_enter Tryz.func80, Tryz.ntmps80
  go_wp2_with (at_builtin; refine wpList_append_lies _ rfl (.tmp 8) (.tmp 10) 109 rfl w0.heap.size 24 i0 (.slice none 0 0) 1 24 Tryz.underlying109 hi0 hz0 hz1 hz2 rfl (by omega) b2 k2 _ rfl (H.out.row2.alloc _) ⟨w.heap.size, 0, none⟩ 1 1 [.slice A n c] rfl rfl (cell_one_new _ _ _) (by simp [Value.oneCell']) (by omega) (by unfold maxLen; omega) (by omega) (by simp; omega) _ rfl ?_; intro g cap w1 hown hg hat _; have HB1 := Lib.hid ((hg.block p (by simp; have := HW.out; omega) fun e => HNE.out e.symm).trans (heap_old H.out.blk)); have HO := Lib.hid hown; have HG := Lib.hid hg; have HT := Lib.hid hat; have d0 := block_cell HB1.out 16 b2 rfl; have f0 := frozen_of_row w1 p 16 _ _ HB1.out; clear hown hg hat)
  refine bodyPost_end (results_none rfl _ _ _) rfl ?_
  have hgr := H.out.grow2 HV.out HO.out HG.out HT.out
  exact ⟨rfl, ⟨_, hgr.1⟩, hgr.2⟩
/-- A row of the bag grows, and its slice is stored. -/
theorem BagO.grow3 {w0 w w1 : World} {p : Nat} {b1 b2 b3 : Value} {k1 k2 k3 : Nat} {v1 v2 v3 : Nat → Value} (h : BagO w0 w p b1 b2 b3 k1 k2 k3 v1 v2 v3) {g cap : Nat} {ob : Obj} {u : Value} (hu : v3 k3 = u)
    (ho : w1.ownsRow w0.heap.size 28 1 (.slice (some ⟨g, 0, none⟩) (k3 + 1) cap) (k3 + 1) ((List.range k3).map v3 ++ [u])) (hg : (w.alloc ob).grownBy w1 b3.ownBlock) (ht : b3.ownBlock = some g ∨ g = (w.alloc ob).heap.size) :
    BagO w0 (w1.setCell ⟨p, 17, none⟩ (.slice (some ⟨g, 0, none⟩) (k3 + 1) cap)) p b1 b2 (.slice (some ⟨g, 0, none⟩) (k3 + 1) cap) k1 k2 (k3 + 1) v1 v2 v3 ∧ Keeps (fun x => x = p ∨ b3.ownBlock = some x) w (w1.setCell ⟨p, 17, none⟩ (.slice (some ⟨g, 0, none⟩) (k3 + 1) cap)) := by
  have hpl := heap_lt h.blk
  have n1 : b1.ownBlock ≠ some p := row_ne_cells h.row1 h.blk (by decide)
  have n2 : b2.ownBlock ≠ some p := row_ne_cells h.row2 h.blk (by decide)
  have n3 : b3.ownBlock ≠ some p := row_ne_cells h.row3 h.blk (by decide)
  have hb1 := (hg.block p (by simp; omega) fun e => n3 e.symm).trans (heap_old h.blk)
  have hk : Keeps (fun x => b3.ownBlock = some x) w w1 := (Keeps.alloc _ w _).trans (Keeps.grown hg fun _ e => e) fun _ _ h => h
  have hst : Keeps (fun x => x = p) w1 (w1.setCell ⟨p, 17, none⟩ (.slice (some ⟨g, 0, none⟩) (k3 + 1) cap)) := Keeps.setCell (fun x => x = p) w1 ⟨p, 17, none⟩ _ rfl
  have e : (List.range k3).map v3 ++ [u] = (List.range (k3 + 1)).map v3 := by rw [List.range_succ, List.map_append, ← hu]; rfl
  rw [e] at ho
  have r1 := hk.row h.row1 fun k h1 h2 => own_ne h.row1 h.row3 (by decide) h1 h2
  have r1 := hst.row r1 fun k h1 h2 => n1 (h2 ▸ h1)
  have r2 := hk.row h.row2 fun k h1 h2 => own_ne h.row2 h.row3 (by decide) h1 h2
  have r2 := hst.row r2 fun k h1 h2 => n2 (h2 ▸ h1)
  have r3 := hst.row ho fun x hx e2 => by
    have e3 : g = p := by
      have : some g = some x := hx
      injection this with this
      rw [this, e2]
    subst e3
    rcases ht with h1 | h1
    · exact n3 h1
    · simp at h1; omega
  exact ⟨⟨heap_setCell_same w1 p 17 _ _ _ hb1, r1, r2, r3, (h.kept.trans hk fun x hx hx2 => by have := (row_lt h.row3 hx2).1; omega).trans hst fun x hx e => by have := h.low; omega, h.low⟩, (hk.mono fun _ _ h => .inr h).trans hst fun _ _ h => .inl h⟩
/-- The block of one op is a row of one. -/
theorem own_one {w : World} {base b s : Nat} {t : TypeId} {cs : List Value} (h : w.heap[b]? = some (.cells cs.toArray t (0, 0))) (hs : cs.length = s) (h1 : ∀ u ∈ cs, u.oneCell' = true) (hb : base ≤ b) : w.ownsRow base t s (.slice (some ⟨b, 0, none⟩) 1 1) 1 cs :=
  ⟨by rw [hs, Nat.one_mul], .inr ⟨b, 1, cs.toArray, rfl, hb, h, Nat.le_refl _, by simp [maxLen], by simp [hs], by rw [List.toList_toArray, Nat.one_mul, ← hs, List.take_length]⟩⟩
abbrev opAt (D : OpR) (A1 : Option Addr) (n1 c1 : Nat) (A2 : Option Addr) (n2 c2 : Nat) : List Value := opL D.kd D.at_ D.n D.sn A1 n1 c1 A2 n2 c2
set_option maxRecDepth 100000 in
theorem one85 (w0 w : World) (p : Nat) (b1 b2 b3 : Value) (k1 k2 k3 : Nat) (v1 v2 v3 : Nat → Value) (kd x n s : Int) (A1 : Option Addr) (n1 c1 : Nat) (A2 : Option Addr) (n2 c2 : Nat) (hv1 : v1 k1 = .slice A1 n1 c1) (hv2 : v2 k2 = .slice A2 n2 c2) (hk1 : k1 ≤ 1000) (hk2 : k2 ≤ 1000) (h : BagO w0 w p b1 b2 b3 k1 k2 k3 v1 v2 v3) :
    Calls Tryz.prog 55 #[.pointer (some ⟨p, 0, none⟩), opV kd x n s A1 n1 c1 A2 n2 c2] w fun e w' => e = .returned undef ∧ ∃ b1' b2', BagO w0 w' p b1' b2' b3 (k1 + 1) (k2 + 1) k3 v1 v2 v3 := by
  have H := Lib.hid h
  have HV1 := Lib.hid hv1
  have HV2 := Lib.hid hv2
  clear h hv1 hv2
  unfold opV
  go_enter Tryz.func55, Tryz.ntmps55
  go_upto_region 1 with fail
  obtain ⟨w1, hw1⟩ : ∃ w1, w1 = w.alloc (.cells #[.int .u8 kd, .int .i64 x, .int .i64 n, .int .i64 s, .slice A1 n1 c1, .slice A2 n2 c2] 26) := ⟨_, rfl⟩
  rw [← hw1]
  have Q : Hid (w1.heap[w.heap.size]? = some (.cells (opL kd x n s A1 n1 c1 A2 n2 c2).toArray 26 (0, 0))) := Lib.hid (by rw [hw1]; exact heap_new w _)
  have H1 : Hid (BagO w0 w1 p b1 b2 b3 k1 k2 k3 v1 v2 v3) := Lib.hid (H.out.fresh (by rw [hw1]; exact (Below.refl _ _).alloc (Nat.le_refl _) _))
  obtain ⟨q, hq⟩ : ∃ q, q = w.heap.size := ⟨_, rfl⟩
  rw [← hq] at Q ⊢
  clear hw1 hq H
  have c4 := block_cell Q.out 4 _ rfl
  go_wp2_with fail
  refine (putO1 w0 w1 p b1 b2 b3 k1 k2 k3 v1 v2 v3 A1 n1 c1 HV1.out hk1 H1.out).mono ?_
  rintro e w2 ⟨rfl, ⟨b1', h2⟩, k2'⟩
  have Q := Lib.hid (k2'.heap Q.out (fun e => e.elim (fun e => blk_ne Q.out H1.out.blk (by decide) e) (fun e => row_ne_cells H1.out.row1 Q.out (by decide) e)))
  have H2 := Lib.hid h2
  clear h2 k2' H1 c4
  have c5 := block_cell Q.out 5 _ rfl
  go_wp2_with fail
  refine (putO2 w0 w2 p b1' b2 b3 (k1 + 1) k2 k3 v1 v2 v3 A2 n2 c2 HV2.out hk2 H2.out).mono ?_
  rintro e w3 ⟨rfl, ⟨b2', h3⟩, -⟩
  have H3 := Lib.hid h3
  clear h3 c5
  go_wp2_with fail
  refine bodyPost_end (results_none rfl _ _ _) rfl ?_
  exact ⟨rfl, b1', b2', H3.out⟩
set_option maxRecDepth 100000 in
theorem putO53 (w0 w : World) (p : Nat) (b1 b2 b3 : Value) (k1 k2 k3 : Nat) (v1 v2 v3 : Nat → Value) (b : Nat) (kd x n s : Int) (A1 : Option Addr) (n1 c1 : Nat) (A2 : Option Addr) (n2 c2 : Nat) (hv1 : v1 k1 = .slice A1 n1 c1) (hv2 : v2 k2 = .slice A2 n2 c2) (hv3 : v3 k3 = .slice (some ⟨b, 0, none⟩) 1 1) (hk1 : k1 ≤ 1000) (hk2 : k2 ≤ 1000) (hk3 : k3 ≤ 1000)
    (hb : w0.rangeAt b 0 (opL kd x n s A1 n1 c1 A2 n2 c2)) (h : BagO w0 w p b1 b2 b3 k1 k2 k3 v1 v2 v3) :
    Calls Tryz.prog 45 #[.pointer (some ⟨p, 0, none⟩), .slice (some ⟨b, 0, none⟩) 1 1] w fun e w' => e = .returned undef ∧ ∃ b1' b2' b3', BagO w0 w' p b1' b2' b3' (k1 + 1) (k2 + 1) (k3 + 1) v1 v2 v3 := by
  obtain ⟨i0, hi0, hz0, hz1, hz2⟩ := infoParts infoS_Ops
  have H := Lib.hid h
  have HV1 := Lib.hid hv1
  have HV2 := Lib.hid hv2
  have HV3 := Lib.hid hv3
  have c0 := block_cell h.blk 17 b3 rfl
  have hsz := h.kept.size
  have HW := Lib.hid (heap_lt h.blk)
  have HNE : Hid (b3.ownBlock ≠ some p) := Lib.hid (row_ne_cells h.row3 h.blk (by decide))
  have HB0 := Lib.hid hb
  clear h hv1 hv2 hv3 hb
  go_enter Tryz.func45, Tryz.ntmps45
  go_upto_region 1 with (at_builtin; refine wpList_append_lies _ rfl (.tmp 9) (.tmp 11) 69 rfl w0.heap.size 28 i0 (.slice none 0 0) 1 24 Tryz.underlying69 hi0 hz0 hz1 hz2 rfl (by omega) b3 k3 _ rfl (H.out.row3.alloc _) ⟨w.heap.size, 0, none⟩ 1 1 [.slice (some ⟨b, 0, none⟩) 1 1] rfl rfl (cell_one_new _ _ _) (by simp [Value.oneCell']) (by omega) (by unfold maxLen; omega) (by omega) (by simp; omega) _ rfl ?_; intro g cap w1 hown hg hat _; have HB1 := Lib.hid ((hg.block p (by simp; have := HW.out; omega) fun e => HNE.out e.symm).trans (heap_old H.out.blk)); have HO := Lib.hid hown; have HG := Lib.hid hg; have HT := Lib.hid hat; have d0 := block_cell HB1.out 17 b3 rfl; have f0 := frozen_of_row w1 p 17 _ _ HB1.out; clear hown hg hat)
  have hgr := H.out.grow3 HV3.out HO.out HG.out HT.out
  obtain ⟨w2, hw2⟩ : ∃ w2, w2 = w1.setCell ⟨p, 17, none⟩ (.slice (some ⟨g, 0, none⟩) (k3 + 1) cap) := ⟨_, rfl⟩
  rw [← hw2] at hgr ⊢
  obtain ⟨b3', hb3⟩ : ∃ v, v = Value.slice (some ⟨g, 0, none⟩) (k3 + 1) cap := ⟨_, rfl⟩
  rw [← hb3] at hgr
  have H2 := Lib.hid hgr.1
  clear hgr hw2 hb3 d0 f0 HB1 HO HG HT c0 H HNE HW hsz hi0 hz0 hz1 hz2
  go_upto_region 2 with fail
  go_loopw [4] (fun i wr => ∃ k : Nat, k ≤ 1 ∧ i = .int .i64 k ∧ ∃ b1' b2', BagO w0 wr p b1' b2' b3' (k1 + k) (k2 + k) (k3 + 1) v1 v2 v3) (fun i _ => 1 - (intOf i).toNat)
  case atStart => exact ⟨0, Nat.zero_le _, rfl, b1, b2, H2.out⟩
  case round =>
    clear H2
    obtain ⟨k, hk, rfl, b1', b2', h2⟩ := hrel
    have H2 := Lib.hid h2
    clear h2
    by_cases hlt : k < 1
    · obtain rfl : k = 0 := by omega
      have RA : Hid (wr.rangeAt b 0 (opL kd x n s A1 n1 c1 A2 n2 c2)) := Lib.hid fun j v hj => H2.out.kept.cell (HB0.out j v hj) fun h => h
      go_wp2_with (refine wpList_load_midG rfl 26 (.tmp 24) rfl b 0 rfl (opL kd x n s A1 n1 c1 A2 n2 c2) _ RA.out Tryz.underlying26 rfl sizeOp ?_)
      refine (one85 w0 wr p b1' b2' b3' k1 k2 (k3 + 1) v1 v2 v3 kd x n s A1 n1 c1 A2 n2 c2 HV1.out HV2.out hk1 hk2 H2.out).mono ?_
      rintro e w3 ⟨rfl, b1n, b2n, h3⟩
      have H3 := Lib.hid h3
      clear h3 RA
      go_wp2_with fail
      go_roundw
      case rel => exact ⟨1, Nat.le_refl _, by go_num, b1n, b2n, H3.out⟩
      case measure => simp [intOf]
    · obtain rfl : k = 1 := by omega
      go_wp2_with fail
      refine bodyPost_end (results_none rfl _ _ _) rfl ?_
      exact ⟨rfl, b1', b2', b3', H2.out⟩
set_option maxRecDepth 100000 in
set_option maxHeartbeats 2000000 in
theorem apartO (w : World) (base cL K : Nat) (L : Option Addr) (kd x n s : Nat → Int) (A1 : Nat → Option Addr) (n1 c1 : Nat → Nat) (A2 : Nat → Option Addr) (n2 c2 : Nat → Nat) (B : Nat → Nat) (hK0 : 0 < K) (hK : K ≤ 1000) (hn : ∀ j, j < K → n1 j ≤ 900000000 ∧ n2 j ≤ 900000000)
    (hl : Arr w w.heap.size L K fun j => .slice (some ⟨B j, 0, none⟩) 1 1) (hB : ∀ j, j < K → w.heap[B j]? = some (.cells (opL (kd j) (x j) (n j) (s j) (A1 j) (n1 j) (c1 j) (A2 j) (n2 j) (c2 j)).toArray 26 (0, 0)) ∧ base ≤ B j) (hBd : ∀ j k, j < K → k < K → j ≠ k → B j ≠ B k)
    (hr1 : (∀ j, j < K → RowAtS 53 36 (fun k => FlF.mkQ k) w base (.slice (A1 j) (n1 j) (c1 j)) (n1 j) j 0)) (hd1 : DistS K fun j => .slice (A1 j) (n1 j) (c1 j))
    (hr2 : (∀ j, j < K → RowAtS 48 35 (fun k => FlP.mkQ k) w base (.slice (A2 j) (n2 j) (c2 j)) (n2 j) j 0)) (hd2 : DistS K fun j => .slice (A2 j) (n2 j) (c2 j))
    (hbase : base ≤ w.heap.size) :
    Calls Tryz.prog 27 #[.slice L K cL] w fun e w' => e = .returned (.bool true) ∧ Below base w w' := by
  have HL := Lib.hid hl
  have HB := Lib.hid hB
  have HD := Lib.hid hBd
  have R1 := Lib.hid hr1
  have R2 := Lib.hid hr2
  have D1 := Lib.hid hd1
  have D2 := Lib.hid hd2
  have HN := Lib.hid hn
  clear hl hB hr1 hr2 hd1 hd2 hn hBd
  go_enter Tryz.func27, Tryz.ntmps27
  go_wp2_with fail
  have H0 : Hid (BagO w (w.alloc (.cells (bagO (.slice none 0 0) (.slice none 0 0) (.slice none 0 0)) 114)) w.heap.size (.slice none 0 0) (.slice none 0 0) (.slice none 0 0) 0 0 0 (fun j => .slice (A1 j) (n1 j) (c1 j)) (fun j => .slice (A2 j) (n2 j) (c2 j)) (fun j => .slice (some ⟨B j, 0, none⟩) 1 1)) := Lib.hid ⟨heap_new w _, World.ownsRow_nil _ _ _ _, World.ownsRow_nil _ _ _ _, World.ownsRow_nil _ _ _ _, Keeps.alloc _ w _, Nat.le_refl _⟩
  obtain ⟨p, hp⟩ : ∃ p, p = w.heap.size := ⟨_, rfl⟩
  rw [← hp] at H0 ⊢
  clear hp
  go_loopw [4] (fun i wr => ∃ (k : Nat) (b1 b2 b3 : Value), k ≤ K ∧ i = .int .i64 k ∧ BagO w wr p b1 b2 b3 k k k (fun j => .slice (A1 j) (n1 j) (c1 j)) (fun j => .slice (A2 j) (n2 j) (c2 j)) (fun j => .slice (some ⟨B j, 0, none⟩) 1 1)) (fun i _ => K - (intOf i).toNat)
  case atStart => exact ⟨0, _, _, _, Nat.zero_le _, rfl, H0.out⟩
  case round =>
    clear H0
    obtain ⟨k, b1, b2, b3, hk, rfl, hb⟩ := hrel
    have H := Lib.hid hb
    clear hb
    by_cases hlt : k < K
    · obtain ⟨b, off, rfl, hbl, hc⟩ := HL.out (by omega)
      have c0 : wr.cell? ⟨b, off + k, none⟩ = some (.slice (some ⟨B k, 0, none⟩) 1 1) := H.out.kept.cell (hc k hlt) fun h => h
      have HL2 := Lib.hid (And.intro hbl hc)
      have i1 : (0 : Int) ≤ k := by omega
      have i2 : (k : Int) < K := by omega
      have RB := Lib.hid (range_of (HB.out k hlt).1)
      clear hc hbl
      go_wp2_with fail
      refine (putO53 w wr p b1 b2 b3 k k k _ _ _ (B k) (kd k) (x k) (n k) (s k) (A1 k) (n1 k) (c1 k) (A2 k) (n2 k) (c2 k) rfl rfl rfl (by omega) (by omega) (by omega) RB.out H.out).mono ?_
      rintro e w2 ⟨rfl, b1', b2', b3', hb2⟩
      have H2 := Lib.hid hb2
      clear hb2 c0
      go_wp2_with fail
      go_roundw
      case rel => exact ⟨k + 1, b1', b2', b3', by omega, by go_num, H2.out⟩
      case measure => simp [intOf]; omega
    · obtain rfl : k = K := by omega
      obtain ⟨s1, d1, hb1, _, _⟩ := H.out.row1.form hK0
      obtain ⟨s2, d2, hb2, _, _⟩ := H.out.row2.form hK0
      obtain ⟨s3, d3, hb3, _, _⟩ := H.out.row3.form hK0
      subst hb1 hb2 hb3
      go_wp2_with fail
      refine (bagApartO wr base p s1 d1 s2 d2 s3 d3 k A1 n1 c1 A2 n2 c2 (fun j => some ⟨B j, 0, none⟩) (fun _ => 1) (fun _ => 1) hK (fun j hj => ⟨(HN.out j hj).1, (HN.out j hj).2, by decide⟩) H.out.blk
        (row_more H.out.row1 hbase) (fun j hj => (R1.out j hj).keeps H.out.kept fun _ _ h => h) D1.out (row_more H.out.row2 hbase) (fun j hj => (R2.out j hj).keeps H.out.kept fun _ _ h => h) D2.out
        (row_more H.out.row3 hbase) (fun j hj => ⟨fun _ => opL (kd j) (x j) (n j) (s j) (A1 j) (n1 j) (c1 j) (A2 j) (n2 j) (c2 j), fun _ => rfl, fun _ => opL_one _ _ _ _ _ _ _ _ _ _, fun i hi => absurd hi (by omega), H.out.kept.row (own_one (HB.out j hj).1 rfl (opL_one _ _ _ _ _ _ _ _ _ _) (HB.out j hj).2) fun _ _ h => h⟩)
        (fun i j hi hj hne g h1 h2 => by
          have e1 : B i = g := by simpa [Value.ownBlock] using h1
          have e2 : B j = g := by simpa [Value.ownBlock] using h2
          exact HD.out i j hi hj hne (e1.trans e2.symm)) (Nat.le_trans hbase H.out.kept.size)).mono ?_
      rintro e w3 ⟨rfl, hk3⟩
      have HK3 := Lib.hid (((H.out.kept.below (B := base) (fun _ h => h.elim) hbase)).trans hk3)
      clear hk3
      go_wp2_with fail
      go_ret
      exact ⟨rfl, HK3.out⟩
end Go.Proofs.YthdllbbjajddiaaGreatDoor
