/- Part of the proof of the statements of layer 11 (layout): the law LayoutFields returns true at every input. No condition. -/
import Derived.Test.YtlkbghjeclicmaaI
namespace Go.Proofs.Ytlkbghjeclicmaa
open Go.RowKit
set_option maxHeartbeats 8000000 in
theorem fields3 (which to_ : Int) (w : World) : Calls Try.prog 3 #[.int .i64 which, .int .i64 to_] w fun e w' => e = .returned (.bool true) ∧ Below w.heap.size w w' := by
  have hr : which % 5 = 0 ∨ which % 5 = 1 ∨ which % 5 = 2 ∨ which % 5 = 3 ∨ which % 5 = 4 := by omega
  have HR := Lib.hid hr
  clear hr
  go_enter Try.func3, Try.ntmps3
  go_wp2_with fail
  refine (awake7 _).mono ?_
  rintro e w1 ⟨rfl, hb1⟩
  go_wp2_with fail
  refine (small8 _).mono ?_
  rintro e w2 ⟨rfl, hb2⟩
  have hT2 : Below w.heap.size w w2 := hb1.trans (hb2.mono hb1.size)
  clear hb1 hb2
  go_wp2_with fail
  refine (pick9 which 5 _ (by omega) (by omega)).mono ?_
  rintro e _ ⟨rfl, rfl⟩
  obtain ⟨G, hG⟩ : ∃ G : Geo, G = exG := ⟨_, rfl⟩
  rcases HR.out with hr | hr | hr | hr | hr
  · rw [hr]
    clear hr hG
    go_wp2_with fail
    obtain ⟨g, hg⟩ : ∃ g : Geo, g = ⟨to_, exG.S, exG.G, exG.U, exG.J⟩ := ⟨_, rfl⟩
    generalize hW : World.alloc _ _ = W
    have K2 := Lib.hid (show W.heap[w2.heap.size]? = some (.cells (gcs g) 24 (0, 0)) by rw [← hW, hg]; exact heap_new w2 _)
    have hT : Below w.heap.size w W := by rw [← hW]; exact hT2.alloc hT2.size _
    obtain ⟨e0, e1, e2, e3, e4⟩ := geo_at K2.out
    clear hW hg
    go_region_held3 (fun w' => w'.cell? ⟨w2.heap.size, 0, none⟩ = some (.int .i64 g.V) ∧ w'.cell? ⟨w2.heap.size, 1, none⟩ = some (.int .i64 g.S) ∧ w'.cell? ⟨w2.heap.size, 2, none⟩ = some (.int .i64 g.G) ∧ w'.cell? ⟨w2.heap.size, 3, none⟩ = some (.int .i64 g.U) ∧ w'.cell? ⟨w2.heap.size, 4, none⟩ = some (.int .i64 g.J)) (go_keep)
      (first | (go_at_call 10; refine (right10 g _).mono ?_; rintro e w3 ⟨rfl, hb3⟩; have K3 := Lib.hid ((hb3.block (w2.heap.size) (heap_lt K2.out)).trans K2.out); obtain ⟨x30, x31, x32, x33, x34⟩ := geo_at K3.out) | (go_at_call 11; refine (right11 g _).mono ?_; rintro e w4 ⟨rfl, hb4⟩; have K4 := Lib.hid ((hb4.block (w2.heap.size) (heap_lt K3.out)).trans K3.out); obtain ⟨x40, x41, x42, x43, x44⟩ := geo_at K4.out) | (go_at_call 12; refine (sectors12 g _).mono ?_; rintro e w5 ⟨rfl, hb5⟩; have K5 := Lib.hid ((hb5.block (w2.heap.size) (heap_lt K4.out)).trans K4.out); obtain ⟨x50, x51, x52, x53, x54⟩ := geo_at K5.out) | (go_at_call 13; refine (sectors13 g _).mono ?_; rintro e w6 ⟨rfl, hb6⟩; have K6 := Lib.hid ((hb6.block (w2.heap.size) (heap_lt K5.out)).trans K5.out); obtain ⟨x60, x61, x62, x63, x64⟩ := geo_at K6.out))
    go_wp2_with fail
    go_ret
    have h3 := (hT.drew).trans (hb3.mono hT.size)
    have h4 := h3.trans (hb4.mono h3.size)
    have h5 := h4.trans (hb5.mono h4.size)
    exact ⟨rfl, h5.trans (hb6.mono h5.size)⟩
  · rw [hr]
    clear hr hG
    go_wp2_with fail
    obtain ⟨g, hg⟩ : ∃ g : Geo, g = ⟨exG.V, to_, exG.G, exG.U, exG.J⟩ := ⟨_, rfl⟩
    generalize hW : World.alloc _ _ = W
    have K2 := Lib.hid (show W.heap[w2.heap.size]? = some (.cells (gcs g) 24 (0, 0)) by rw [← hW, hg]; exact heap_new w2 _)
    have hT : Below w.heap.size w W := by rw [← hW]; exact hT2.alloc hT2.size _
    obtain ⟨e0, e1, e2, e3, e4⟩ := geo_at K2.out
    clear hW hg
    go_region_held3 (fun w' => w'.cell? ⟨w2.heap.size, 0, none⟩ = some (.int .i64 g.V) ∧ w'.cell? ⟨w2.heap.size, 1, none⟩ = some (.int .i64 g.S) ∧ w'.cell? ⟨w2.heap.size, 2, none⟩ = some (.int .i64 g.G) ∧ w'.cell? ⟨w2.heap.size, 3, none⟩ = some (.int .i64 g.U) ∧ w'.cell? ⟨w2.heap.size, 4, none⟩ = some (.int .i64 g.J)) (go_keep)
      (first | (go_at_call 10; refine (right10 g _).mono ?_; rintro e w3 ⟨rfl, hb3⟩; have K3 := Lib.hid ((hb3.block (w2.heap.size) (heap_lt K2.out)).trans K2.out); obtain ⟨x30, x31, x32, x33, x34⟩ := geo_at K3.out) | (go_at_call 11; refine (right11 g _).mono ?_; rintro e w4 ⟨rfl, hb4⟩; have K4 := Lib.hid ((hb4.block (w2.heap.size) (heap_lt K3.out)).trans K3.out); obtain ⟨x40, x41, x42, x43, x44⟩ := geo_at K4.out) | (go_at_call 12; refine (sectors12 g _).mono ?_; rintro e w5 ⟨rfl, hb5⟩; have K5 := Lib.hid ((hb5.block (w2.heap.size) (heap_lt K4.out)).trans K4.out); obtain ⟨x50, x51, x52, x53, x54⟩ := geo_at K5.out) | (go_at_call 13; refine (sectors13 g _).mono ?_; rintro e w6 ⟨rfl, hb6⟩; have K6 := Lib.hid ((hb6.block (w2.heap.size) (heap_lt K5.out)).trans K5.out); obtain ⟨x60, x61, x62, x63, x64⟩ := geo_at K6.out))
    go_wp2_with fail
    go_ret
    have h3 := (hT.drew).trans (hb3.mono hT.size)
    have h4 := h3.trans (hb4.mono h3.size)
    have h5 := h4.trans (hb5.mono h4.size)
    exact ⟨rfl, h5.trans (hb6.mono h5.size)⟩
  · rw [hr]
    clear hr hG
    go_wp2_with fail
    obtain ⟨g, hg⟩ : ∃ g : Geo, g = ⟨exG.V, exG.S, to_, exG.U, exG.J⟩ := ⟨_, rfl⟩
    generalize hW : World.alloc _ _ = W
    have K2 := Lib.hid (show W.heap[w2.heap.size]? = some (.cells (gcs g) 24 (0, 0)) by rw [← hW, hg]; exact heap_new w2 _)
    have hT : Below w.heap.size w W := by rw [← hW]; exact hT2.alloc hT2.size _
    obtain ⟨e0, e1, e2, e3, e4⟩ := geo_at K2.out
    clear hW hg
    go_region_held3 (fun w' => w'.cell? ⟨w2.heap.size, 0, none⟩ = some (.int .i64 g.V) ∧ w'.cell? ⟨w2.heap.size, 1, none⟩ = some (.int .i64 g.S) ∧ w'.cell? ⟨w2.heap.size, 2, none⟩ = some (.int .i64 g.G) ∧ w'.cell? ⟨w2.heap.size, 3, none⟩ = some (.int .i64 g.U) ∧ w'.cell? ⟨w2.heap.size, 4, none⟩ = some (.int .i64 g.J)) (go_keep)
      (first | (go_at_call 10; refine (right10 g _).mono ?_; rintro e w3 ⟨rfl, hb3⟩; have K3 := Lib.hid ((hb3.block (w2.heap.size) (heap_lt K2.out)).trans K2.out); obtain ⟨x30, x31, x32, x33, x34⟩ := geo_at K3.out) | (go_at_call 11; refine (right11 g _).mono ?_; rintro e w4 ⟨rfl, hb4⟩; have K4 := Lib.hid ((hb4.block (w2.heap.size) (heap_lt K3.out)).trans K3.out); obtain ⟨x40, x41, x42, x43, x44⟩ := geo_at K4.out) | (go_at_call 12; refine (sectors12 g _).mono ?_; rintro e w5 ⟨rfl, hb5⟩; have K5 := Lib.hid ((hb5.block (w2.heap.size) (heap_lt K4.out)).trans K4.out); obtain ⟨x50, x51, x52, x53, x54⟩ := geo_at K5.out) | (go_at_call 13; refine (sectors13 g _).mono ?_; rintro e w6 ⟨rfl, hb6⟩; have K6 := Lib.hid ((hb6.block (w2.heap.size) (heap_lt K5.out)).trans K5.out); obtain ⟨x60, x61, x62, x63, x64⟩ := geo_at K6.out))
    go_wp2_with fail
    go_ret
    have h3 := (hT.drew).trans (hb3.mono hT.size)
    have h4 := h3.trans (hb4.mono h3.size)
    have h5 := h4.trans (hb5.mono h4.size)
    exact ⟨rfl, h5.trans (hb6.mono h5.size)⟩
  · rw [hr]
    clear hr hG
    go_wp2_with fail
    obtain ⟨g, hg⟩ : ∃ g : Geo, g = ⟨exG.V, exG.S, exG.G, to_, exG.J⟩ := ⟨_, rfl⟩
    generalize hW : World.alloc _ _ = W
    have K2 := Lib.hid (show W.heap[w2.heap.size]? = some (.cells (gcs g) 24 (0, 0)) by rw [← hW, hg]; exact heap_new w2 _)
    have hT : Below w.heap.size w W := by rw [← hW]; exact hT2.alloc hT2.size _
    obtain ⟨e0, e1, e2, e3, e4⟩ := geo_at K2.out
    clear hW hg
    go_region_held3 (fun w' => w'.cell? ⟨w2.heap.size, 0, none⟩ = some (.int .i64 g.V) ∧ w'.cell? ⟨w2.heap.size, 1, none⟩ = some (.int .i64 g.S) ∧ w'.cell? ⟨w2.heap.size, 2, none⟩ = some (.int .i64 g.G) ∧ w'.cell? ⟨w2.heap.size, 3, none⟩ = some (.int .i64 g.U) ∧ w'.cell? ⟨w2.heap.size, 4, none⟩ = some (.int .i64 g.J)) (go_keep)
      (first | (go_at_call 10; refine (right10 g _).mono ?_; rintro e w3 ⟨rfl, hb3⟩; have K3 := Lib.hid ((hb3.block (w2.heap.size) (heap_lt K2.out)).trans K2.out); obtain ⟨x30, x31, x32, x33, x34⟩ := geo_at K3.out) | (go_at_call 11; refine (right11 g _).mono ?_; rintro e w4 ⟨rfl, hb4⟩; have K4 := Lib.hid ((hb4.block (w2.heap.size) (heap_lt K3.out)).trans K3.out); obtain ⟨x40, x41, x42, x43, x44⟩ := geo_at K4.out) | (go_at_call 12; refine (sectors12 g _).mono ?_; rintro e w5 ⟨rfl, hb5⟩; have K5 := Lib.hid ((hb5.block (w2.heap.size) (heap_lt K4.out)).trans K4.out); obtain ⟨x50, x51, x52, x53, x54⟩ := geo_at K5.out) | (go_at_call 13; refine (sectors13 g _).mono ?_; rintro e w6 ⟨rfl, hb6⟩; have K6 := Lib.hid ((hb6.block (w2.heap.size) (heap_lt K5.out)).trans K5.out); obtain ⟨x60, x61, x62, x63, x64⟩ := geo_at K6.out))
    go_wp2_with fail
    go_ret
    have h3 := (hT.drew).trans (hb3.mono hT.size)
    have h4 := h3.trans (hb4.mono h3.size)
    have h5 := h4.trans (hb5.mono h4.size)
    exact ⟨rfl, h5.trans (hb6.mono h5.size)⟩
  · rw [hr]
    clear hr hG
    go_wp2_with fail
    obtain ⟨g, hg⟩ : ∃ g : Geo, g = ⟨exG.V, exG.S, exG.G, exG.U, to_⟩ := ⟨_, rfl⟩
    generalize hW : World.alloc _ _ = W
    have K2 := Lib.hid (show W.heap[w2.heap.size]? = some (.cells (gcs g) 24 (0, 0)) by rw [← hW, hg]; exact heap_new w2 _)
    have hT : Below w.heap.size w W := by rw [← hW]; exact hT2.alloc hT2.size _
    obtain ⟨e0, e1, e2, e3, e4⟩ := geo_at K2.out
    clear hW hg
    go_region_held3 (fun w' => w'.cell? ⟨w2.heap.size, 0, none⟩ = some (.int .i64 g.V) ∧ w'.cell? ⟨w2.heap.size, 1, none⟩ = some (.int .i64 g.S) ∧ w'.cell? ⟨w2.heap.size, 2, none⟩ = some (.int .i64 g.G) ∧ w'.cell? ⟨w2.heap.size, 3, none⟩ = some (.int .i64 g.U) ∧ w'.cell? ⟨w2.heap.size, 4, none⟩ = some (.int .i64 g.J)) (go_keep)
      (first | (go_at_call 10; refine (right10 g _).mono ?_; rintro e w3 ⟨rfl, hb3⟩; have K3 := Lib.hid ((hb3.block (w2.heap.size) (heap_lt K2.out)).trans K2.out); obtain ⟨x30, x31, x32, x33, x34⟩ := geo_at K3.out) | (go_at_call 11; refine (right11 g _).mono ?_; rintro e w4 ⟨rfl, hb4⟩; have K4 := Lib.hid ((hb4.block (w2.heap.size) (heap_lt K3.out)).trans K3.out); obtain ⟨x40, x41, x42, x43, x44⟩ := geo_at K4.out) | (go_at_call 12; refine (sectors12 g _).mono ?_; rintro e w5 ⟨rfl, hb5⟩; have K5 := Lib.hid ((hb5.block (w2.heap.size) (heap_lt K4.out)).trans K4.out); obtain ⟨x50, x51, x52, x53, x54⟩ := geo_at K5.out) | (go_at_call 13; refine (sectors13 g _).mono ?_; rintro e w6 ⟨rfl, hb6⟩; have K6 := Lib.hid ((hb6.block (w2.heap.size) (heap_lt K5.out)).trans K5.out); obtain ⟨x60, x61, x62, x63, x64⟩ := geo_at K6.out))
    go_wp2_with fail
    go_ret
    have h3 := (hT.drew).trans (hb3.mono hT.size)
    have h4 := h3.trans (hb4.mono h3.size)
    have h5 := h4.trans (hb5.mono h4.size)
    exact ⟨rfl, h5.trans (hb6.mono h5.size)⟩
end Go.Proofs.Ytlkbghjeclicmaa
