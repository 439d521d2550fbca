/- Part of the proof of the statements of layer 11 (layout): the law LayoutPlaces returns true at every input. No condition. -/
import Derived.Test.YtlkbghjeclicmaaI
namespace Go.Proofs.Ytlkbghjeclicmaa
open Go.RowKit
set_option maxHeartbeats 4000000 in
theorem places5 (g : Geo) (i a : Int) (w : World) (ha : a ≤ 9223372036854775807) : Calls Try.prog 5 #[gv g, .int .i64 i, .int .i64 a] w fun e w' => e = .returned (.bool true) ∧ Below w.heap.size w w' := by
  have K0 := Lib.hid (heap_new w (.cells (gcs g) 24))
  have hz0 : w.heap.size < (w.alloc (.cells (gcs g) 24)).heap.size := by simp
  have hT0 : Below w.heap.size w (w.alloc (.cells (gcs g) 24)) := (Below.refl _ w).alloc (Nat.le_refl _) _
  obtain ⟨e0, e1, e2, e3, e4⟩ := geo_at K0.out
  go_enter Try.func5, Try.ntmps5
  go_wp2_with fail
  refine (awake7 _).mono ?_
  rintro e w1 ⟨rfl, hb1⟩
  have hz1 := Nat.lt_of_lt_of_le hz0 hb1.size
  have K1 := Lib.hid ((hb1.block (w.heap.size) hz0).trans K0.out)
  have hT1 : Below w.heap.size w w1 := hT0.trans (hb1.mono hT0.size)
  clear e0 e1 e2 e3 e4 hb1
  obtain ⟨e0, e1, e2, e3, e4⟩ := geo_at K1.out
  go_wp2_with fail
  refine (in14 g a _ ha).mono ?_
  rintro e w2 ⟨rfl, hb2⟩
  have hz2 := Nat.lt_of_lt_of_le hz1 hb2.size
  have K2 := Lib.hid ((hb2.block (w.heap.size) hz1).trans K1.out)
  have hT2 : Below w.heap.size w w2 := hT1.trans (hb2.mono hT1.size)
  clear e0 e1 e2 e3 e4 hb2
  obtain ⟨e0, e1, e2, e3, e4⟩ := geo_at K2.out
  go_wp2_with fail
  refine (in16 g a _ ha).mono ?_
  rintro e w3 ⟨rfl, hb3⟩
  have hz3 := Nat.lt_of_lt_of_le hz2 hb3.size
  have K3 := Lib.hid ((hb3.block (w.heap.size) hz2).trans K2.out)
  have hT3 : Below w.heap.size w w3 := hT2.trans (hb3.mono hT2.size)
  clear e0 e1 e2 e3 e4 hb3
  obtain ⟨e0, e1, e2, e3, e4⟩ := geo_at K3.out
  go_wp2_with fail
  simp only [List.append_eq, List.cons_append, List.nil_append]
  go_region_held3 (fun w' => w'.cell? ⟨w.heap.size, 0, none⟩ = some (.int .i64 g.V) ∧ w'.cell? ⟨w.heap.size, 1, none⟩ = some (.int .i64 g.S) ∧ w'.cell? ⟨w.heap.size, 2, none⟩ = some (.int .i64 g.G) ∧ w'.cell? ⟨w.heap.size, 3, none⟩ = some (.int .i64 g.U) ∧ w'.cell? ⟨w.heap.size, 4, none⟩ = some (.int .i64 g.J)) (go_keep)
    (first | (go_at_call 10; refine (right10 g _).mono ?_; rintro e w4 ⟨rfl, hb4⟩; have K4 := Lib.hid ((hb4.block (w.heap.size) (heap_lt K3.out)).trans K3.out); obtain ⟨x40, x41, x42, x43, x44⟩ := geo_at K4.out) | (go_at_call 11; refine (right11 g _).mono ?_; rintro e w5 ⟨rfl, hb5⟩; have K5 := Lib.hid ((hb5.block (w.heap.size) (heap_lt K4.out)).trans K4.out); obtain ⟨x50, x51, x52, x53, x54⟩ := geo_at K5.out) | (go_at_call 12; refine (sectors12 g _).mono ?_; rintro e w6 ⟨rfl, hb6⟩; have K6 := Lib.hid ((hb6.block (w.heap.size) (heap_lt K5.out)).trans K5.out); obtain ⟨x60, x61, x62, x63, x64⟩ := geo_at K6.out) | (go_at_call 13; refine (sectors13 g _).mono ?_; rintro e w7 ⟨rfl, hb7⟩; have K7 := Lib.hid ((hb7.block (w.heap.size) (heap_lt K6.out)).trans K6.out); obtain ⟨x70, x71, x72, x73, x74⟩ := geo_at K7.out) | (go_at_call 17; refine (pages17 g _).mono ?_; rintro e w8 ⟨rfl, hb8⟩; have K8 := Lib.hid ((hb8.block (w.heap.size) (heap_lt K7.out)).trans K7.out); obtain ⟨x80, x81, x82, x83, x84⟩ := geo_at K8.out) | (go_at_call 18; refine (pages18 g _).mono ?_; rintro e w9 ⟨rfl, hb9⟩; have K9 := Lib.hid ((hb9.block (w.heap.size) (heap_lt K8.out)).trans K8.out); obtain ⟨x90, x91, x92, x93, x94⟩ := geo_at K9.out) | (go_at_call 19; refine (slot19 g i _).mono ?_; rintro e w10 ⟨rfl, hb10⟩; have K10 := Lib.hid ((hb10.block (w.heap.size) (heap_lt K9.out)).trans K9.out); obtain ⟨x100, x101, x102, x103, x104⟩ := geo_at K10.out) | (go_at_call 20; refine (slot20 g i _).mono ?_; rintro e w11 ⟨rfl, hb11⟩; have K11 := Lib.hid ((hb11.block (w.heap.size) (heap_lt K10.out)).trans K10.out); obtain ⟨x110, x111, x112, x113, x114⟩ := geo_at K11.out) | (go_at_call 21; refine (half21 g i _).mono ?_; rintro e w12 ⟨rfl, hb12⟩; have K12 := Lib.hid ((hb12.block (w.heap.size) (heap_lt K11.out)).trans K11.out); obtain ⟨x120, x121, x122, x123, x124⟩ := geo_at K12.out) | (go_at_call 22; refine (half22 g i _).mono ?_; rintro e w13 ⟨rfl, hb13⟩; have K13 := Lib.hid ((hb13.block (w.heap.size) (heap_lt K12.out)).trans K12.out); obtain ⟨x130, x131, x132, x133, x134⟩ := geo_at K13.out) | (go_at_call 23; refine (area23 g i _).mono ?_; rintro e w14 ⟨rfl, hb14⟩; have K14 := Lib.hid ((hb14.block (w.heap.size) (heap_lt K13.out)).trans K13.out); obtain ⟨x140, x141, x142, x143, x144⟩ := geo_at K14.out) | (go_at_call 24; refine (area24 g i _).mono ?_; rintro e w15 ⟨rfl, hb15⟩; have K15 := Lib.hid ((hb15.block (w.heap.size) (heap_lt K14.out)).trans K14.out); obtain ⟨x150, x151, x152, x153, x154⟩ := geo_at K15.out) | (go_at_call 15; refine (seg15 g i _).mono ?_; rintro e w16 ⟨rfl, hb16⟩; have K16 := Lib.hid ((hb16.block (w.heap.size) (heap_lt K15.out)).trans K15.out); obtain ⟨x160, x161, x162, x163, x164⟩ := geo_at K16.out) | (go_at_call 25; refine (seg25 g i _).mono ?_; rintro e w17 ⟨rfl, hb17⟩; have K17 := Lib.hid ((hb17.block (w.heap.size) (heap_lt K16.out)).trans K16.out); obtain ⟨x170, x171, x172, x173, x174⟩ := geo_at K17.out))
  have hT4 : Below w.heap.size w w4 := (hT3.drew).trans (hb4.mono hT3.size)
  have hT5 : Below w.heap.size w w5 := hT4.trans (hb5.mono hT4.size)
  have hT6 : Below w.heap.size w w6 := hT5.trans (hb6.mono hT5.size)
  have hT7 : Below w.heap.size w w7 := hT6.trans (hb7.mono hT6.size)
  have hT8 : Below w.heap.size w w8 := hT7.trans (hb8.mono hT7.size)
  have hT9 : Below w.heap.size w w9 := hT8.trans (hb9.mono hT8.size)
  have hT10 : Below w.heap.size w w10 := hT9.trans (hb10.mono hT9.size)
  have hT11 : Below w.heap.size w w11 := hT10.trans (hb11.mono hT10.size)
  have hT12 : Below w.heap.size w w12 := hT11.trans (hb12.mono hT11.size)
  have hT13 : Below w.heap.size w w13 := hT12.trans (hb13.mono hT12.size)
  have hT14 : Below w.heap.size w w14 := hT13.trans (hb14.mono hT13.size)
  have hT15 : Below w.heap.size w w15 := hT14.trans (hb15.mono hT14.size)
  have hT16 : Below w.heap.size w w16 := hT15.trans (hb16.mono hT15.size)
  have hT17 : Below w.heap.size w w17 := hT16.trans (hb17.mono hT16.size)
  go_wp2_with fail
  go_ret
  exact ⟨rfl, hT17⟩
end Go.Proofs.Ytlkbghjeclicmaa
