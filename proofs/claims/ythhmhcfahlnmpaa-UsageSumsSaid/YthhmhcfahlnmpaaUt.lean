/- The law UsageSums (layer 18): it returns true at every input: the walk. -/
import Derived.Test.YthhmhcfahlnmpaaUs
namespace Go.Proofs.Ythhmhcfahlnmpaa
open Go.RowKit
theorem okWide_cap {P : Program} {w : World} {r : Reach} {base : Nat} {t e : TypeId} {a : Option Addr} {n c : Nat} (ht : P.underlying t = some (.slice e)) (h : Value.okWide P w r base t (.slice a n c)) (hA : a = none → n = 0 ∧ c = 0) : n ≤ c := by
  cases a with
  | none => have := hA rfl; omega
  | some ad =>
    simp only [Value.okWide, ht, Cell.okWide, Cell.ok] at h
    exact h.1
theorem cells_pl {w : World} {B n : Nat} {A : Option Addr} {L : Nat → Pl} (h : SArr w B A n 4 (fun i => encP (L i))) {k : Nat} (hk : k < n) {pb off : Nat} (hA : A = some ⟨pb, off, none⟩) :
    w.cell? ⟨pb, off + k * 4, none⟩ = some (.int .i64 (L k).a) ∧ w.cell? ⟨pb, off + k * 4 + 1, none⟩ = some (.int .i64 (L k).n) ∧ w.cell? ⟨pb, off + k * 4 + 2, none⟩ = some (.int .i64 (L k).u) ∧ w.cell? ⟨pb, off + k * 4 + 3, none⟩ = some (.int .i64 (L k).r) := by
  obtain ⟨b, o, e, hb, hc⟩ := h (by omega)
  rw [hA] at e
  injection e with e
  injection e with e1 e2
  subst e1 e2
  exact sarr4_at hc hk
theorem sarr_tail {w : World} {B k t pb off : Nat} {L : Nat → Pl} (h : SArr w B (some ⟨pb, off, none⟩) k 4 (fun i => encP (L i))) (hB : B ≤ w.heap.size) (ht : t < k) : SArr w w.heap.size (some ⟨pb, off + t * 4, none⟩) (k - t) 4 fun i => encP (L (t + i)) := fun _ => by
  obtain ⟨b, o, e, hb, hc⟩ := h (by omega)
  injection e with e
  injection e with e1 e2
  subst e1 e2
  refine ⟨_, _, rfl, by omega, fun j hj => ?_⟩
  have := hc (t + j) (by omega)
  rwa [show off + (t + j) * 4 = off + t * 4 + j * 4 by omega] at this
/-- The places in another order. -/
theorem again_used {g : Geo} {L : Nat → Pl} {n t M : Nat} (hr : rightB g = true) (hf : fineB g L n = true) (hM : (M : Int) = g.S) (ht : t < n) (hp : ∀ i, i < n → (L i).a ≤ 9223372036854775807 ∧ -9223372036854775808 ≤ (L i).n ∧ (L i).n ≤ 9223372036854775807) (W : World) (A : Option Addr) (c : Nat) (hn : n ≤ 1000000)
    (h1 : SArr W W.heap.size A n 4 (fun i => encP (rotL L n t i))) (h2 : A = none → n = 0 ∧ c = 0) (h3 : ∀ a, A = some a → a.spot = none) :
    Calls Try.prog 8 #[gv g, .slice A n c] W fun e W' => ∃ A' c', e = .returned (.tuple #[.slice A' M c', .int .i64 0]) ∧ Arr W' W'.heap.size A' M (fun j => .int .i64 (cntP g L j n)) ∧ Below W.heap.size W W' := by
  have hb : ∀ i, i < n → (rotL L n t i).a ≤ 9223372036854775807 ∧ -9223372036854775808 ≤ (rotL L n t i).n ∧ (rotL L n t i).n ≤ 9223372036854775807 := fun i hi => by
    unfold rotL catL
    split
    · exact hp _ (by omega)
    · exact hp _ (by omega)
  refine (used8 g (rotL L n t) A n c W hn h1 h2 h3 hb).mono fun e W' h => ?_
  obtain ⟨A', c', rfl, hr', hb'⟩ := used_row h
  have e1 := used_0 hr (rot_fine (t := t) (by omega) hf)
  have e2 : usedM g (rotL L n t) n = M := by rw [usedM, if_pos e1]; omega
  rw [e1, e2]
  rw [e2] at hr'
  have e3 : (fun k : Nat => Value.int .i64 (cntP g (rotL L n t) k n)) = fun k : Nat => Value.int .i64 (cntP g L k n) := funext fun k => by rw [rot_cnt k (by omega)]
  rw [e3] at hr'
  exact ⟨A', c', rfl, row_cellsI hr', hb'⟩
/-- With one more place that meets another one. -/
theorem more_used {g : Geo} {L : Nat → Pl} {n j : Nat} {p : Pl} (hr : rightB g = true) (hj : j < n) (hm : meet p (L j) = true) (hp : ∀ i, i < n → (L i).a ≤ 9223372036854775807 ∧ -9223372036854775808 ≤ (L i).n ∧ (L i).n ≤ 9223372036854775807) (hpp : p.a ≤ 9223372036854775807 ∧ -9223372036854775808 ≤ p.n ∧ p.n ≤ 9223372036854775807) (W : World) (A : Option Addr) (c : Nat) (hn : n ≤ 100000)
    (h1 : SArr W W.heap.size A (n + 1) 4 (fun i => encP (catL n L (fun _ => p) i))) (h2 : A = none → n + 1 = 0 ∧ c = 0) (h3 : ∀ a, A = some a → a.spot = none) :
    Calls Try.prog 8 #[gv g, .slice A (n + 1) c] W fun e W' => e = .returned (.tuple #[.slice none 0 0, .int .i64 4]) ∧ Below W.heap.size W W' := by
  have hb : ∀ i, i < n + 1 → (catL n L (fun _ => p) i).a ≤ 9223372036854775807 ∧ -9223372036854775808 ≤ (catL n L (fun _ => p) i).n ∧ (catL n L (fun _ => p) i).n ≤ 9223372036854775807 := fun i hi => by
    unfold catL
    split
    · exact hp _ (by omega)
    · exact hpp
  refine (used8 g (catL n L fun _ => p) A (n + 1) c W (by omega) h1 h2 h3 hb).mono fun e W' h => ?_
  obtain ⟨v, rfl, h4, h5, hb'⟩ := h
  have e1 := used_4 hr (more_fine (g := g) hj hm)
  rw [e1] at h5 ⊢
  rw [h5 (by decide)]
  exact ⟨rfl, hb'⟩
set_option maxRecDepth 100000 in
set_option maxHeartbeats 8000000 in
theorem sums5 (g : Geo) (L : Nat → Pl) (A : Option Addr) (n c : Nat) (x y : Int) (w : World) (hn : n ≤ 4398046511000) (hA : A = none → n = 0 ∧ c = 0) (hA2 : ∀ a, A = some a → a.spot = none) (hpa : ∀ i, i < n → -9223372036854775808 ≤ (L i).a ∧ (L i).a ≤ 9223372036854775807 ∧ -9223372036854775808 ≤ (L i).n ∧ (L i).n ≤ 9223372036854775807)
    (ha : SArr w w.heap.size A n 4 (fun i => encP (L i))) (hc : n ≤ c) :
    Calls Try.prog 5 #[gv g, .slice A n c, .int .i64 x, .int .i64 y] w fun e w' => e = .returned (.bool true) ∧ Below w.heap.size w w' := by
  have HA := Lib.hid ha
  have HNA := Lib.hid hA
  have HNS := Lib.hid hA2
  have HPA := Lib.hid hpa
  have HPB : Hid (∀ i, i < n → (L i).a ≤ 9223372036854775807 ∧ -9223372036854775808 ≤ (L i).n ∧ (L i).n ≤ 9223372036854775807) := Lib.hid fun i hi => (hpa i hi).2
  have HCC := Lib.hid hc
  clear ha hA hA2 hpa hc
  have BBA : Hid (Below w.heap.size w (w.alloc (.cells (gcs g) 23))) := Lib.hid ((Below.refl _ _).alloc (Nat.le_refl _) _)
  go_enter Try.func5, Try.ntmps5
  go_wp2_with fail
  refine (awake6 _).mono ?_
  rintro e w1 ⟨rfl, hb⟩
  obtain ⟨b, hq⟩ : ∃ q, q = w.heap.size := ⟨_, rfl⟩
  have B1 := Lib.hid (BBA.out.trans (hb.mono BBA.out.size))
  have K1 := Lib.hid ((hb.block b (by simp [hq])).trans (heap_new_at (w := w) (.cells (gcs g) 23) hq))
  rw [← hq]
  clear hb hq BBA
  by_cases hbig : 400 < n
  · have t1 : decide ((400 : Int) < n) = true := by simp; omega
    go_wp2_with fail
    go_ret
    exact ⟨rfl, B1.out⟩
  have t1 : decide ((400 : Int) < n) = false := by simp; omega
  obtain ⟨e0, e1, e2, e3, e4⟩ := geo_at K1.out
  by_cases hr : rightB g = true
  rotate_left
  · go_wp2_with fail
    refine (right10f g _ (by simpa using hr)).mono ?_
    rintro e w2 ⟨rfl, hb⟩
    have B2 := Lib.hid (B1.out.trans (hb.mono B1.out.size))
    clear hb
    go_wp2_with fail
    go_ret
    exact ⟨rfl, B2.out⟩
  have HR := Lib.hid hr
  go_wp2_with fail
  refine (right10t g _ hr).mono ?_
  rintro e w2 ⟨rfl, hb⟩
  have B2 := Lib.hid (B1.out.trans (hb.mono B1.out.size))
  have K2 := Lib.hid ((hb.block b (heap_lt K1.out)).trans K1.out)
  clear hb e0 e1 e2 e3 e4 B1 K1 t1 hr
  obtain ⟨e0, e1, e2, e3, e4⟩ := geo_at K2.out
  go_wp2_with fail
  refine (used8 g L A n c w2 (by omega) ((HA.out.below B2.out (Nat.le_refl _)).more B2.out.size) HNA.out HNS.out HPB.out).mono ?_
  rintro e w3 hp
  obtain ⟨A2, c2, rfl, hu, hb⟩ := used_row hp
  obtain ⟨M, hM⟩ : ∃ M, M = usedM g L n := ⟨_, rfl⟩
  obtain ⟨E, hE⟩ : ∃ E, E = usedE g L n := ⟨_, rfl⟩
  have hML : M ≤ 256 := by rw [hM]; exact usedM_le g L n
  have HEM : Hid ((fineB g L n = true → E = 0 ∧ (M : Int) = g.S) ∧ (fineB g L n = false → E = 4 ∧ M = 0)) := Lib.hid ⟨fun h => by
    have h1 := used_0 HR.out h
    refine ⟨by rw [hE, h1], ?_⟩
    have := (fine_right HR.out).s1
    rw [hM, usedM, if_pos h1]; omega, fun h => by
    have h1 := used_4 HR.out h
    exact ⟨by rw [hE, h1], by rw [hM, usedM, if_neg (by omega)]⟩⟩
  rw [← hM] at hu
  rw [← hM, ← hE]
  have U3 := Lib.hid (row_more (base' := w.heap.size) hu B2.out.size)
  have B3 := Lib.hid (B2.out.trans (hb.mono B2.out.size))
  have K3 := Lib.hid ((hb.block b (heap_lt K2.out)).trans K2.out)
  clear hb hu hM hE e0 e1 e2 e3 e4 B2 K2 hp
  obtain ⟨e0, e1, e2, e3, e4⟩ := geo_at K3.out
  have hpr := (fine_right HR.out).prod
  obtain ⟨N, hN⟩ : ∃ N : Nat, g.S * g.G = N := ⟨(g.S * g.G).toNat, by omega⟩
  have HN := Lib.hid hN
  have hN2 : N ≤ 262144 := by omega
  have hw1 : IntKind.i64.wrap (g.S * g.G) = N := by rw [hN]; exact IntWalk.i64_in _ (by omega)
  clear hpr hN
  obtain ⟨i0, hi, hz0, hz1, hz2⟩ := infoParts infoB
  go_wp2_with (at_make; refine wpList_make_full _ rfl _ _ 40 rfl w.heap.size 4 i0 (.bool false) 1 Try.underlying40 hi hz0 hz1 _ _ _ _ N rfl rfl (by rfl) (by rfl) (by rw [hz2]; omega) (by unfold maxLen; omega) B3.out.size ?_; intro w4 hown hg)
  rw [boolRow_0] at hown
  obtain ⟨R, hRR⟩ : ∃ R, R = w3.heap.size := ⟨_, rfl⟩
  rw [← hRR] at hown ⊢
  have ST4 : Hid (St g L n w b A2 M c2 R N w4 (fun _ => false)) := Lib.hid ⟨B3.out.grown hg B3.out.size (fun k e => by cases e), (hg.block b (heap_lt K3.out) (by simp)).trans K3.out, (Keeps.grown (S := fun _ => False) hg (fun k e => by cases e)).row U3.out (fun _ _ h => h), hown⟩
  clear hown hg e0 e1 e2 e3 e4 B3 K3 U3 hRR hi hz0 hz1 hz2 hw1
  go_wp2_with fail
  have hG0 : 0 ≤ g.G := by have hf := fine_right HR.out; have := hf.g1; have := hf.u1; omega
  have hG1 : g.G ≤ 1024 := (fine_right HR.out).g2
  have hS0 : 0 ≤ g.S := by have := (fine_right HR.out).s1; omega
  have hS1 : g.S ≤ 256 := (fine_right HR.out).s2
  go_loopw [12, 13] (fun fv i wr => ∃ (k : Nat) (f : Bool) (T : Nat → Bool), k ≤ n ∧ i = .int .i64 k ∧ fv = .bool f ∧ (f = true → OkTo g L k ∧ T = fun j : Nat => covB L k (segs g + j)) ∧ (f = false → fineB g L n = false) ∧ St g L n w b A2 M c2 R N wr T) (fun _ i _ => n - (intOf i).toNat)
  case atStart => exact ⟨0, true, fun _ => false, Nat.zero_le _, rfl, rfl, fun _ => ⟨⟨fun _ h => absurd h (by omega), fun _ h => absurd h (by omega)⟩, rfl⟩, fun h => (by cases h), ST4.out⟩
  case round =>
    clear ST4
    obtain ⟨k, f, T, hk, rfl, rfl, hT, hF, hst⟩ := hrel
    have ST := Lib.hid hst
    have HT := Lib.hid hT
    have HF := Lib.hid hF
    clear hst hT hF
    cases f with
    | false =>
      obtain ⟨hE4, hM0⟩ := HEM.out.2 (HF.out rfl)
      subst hE4
      subst hM0
      by_cases hlt : k < n
      · go_wp2_with fail
        go_ret
        exact ⟨rfl, ST.out.bel⟩
      · obtain rfl : k = n := by omega
        go_wp2_with fail
        go_ret
        exact ⟨rfl, ST.out.bel⟩
    | true =>
      obtain ⟨hok, rfl⟩ := HT.out rfl
      have HOK := Lib.hid hok
      clear hok HT HF
      by_cases hlt : k < n
      · obtain ⟨pb, off, rfl, hpb, -⟩ := (HA.out.below ST.out.bel (Nat.le_refl _)) (by omega)
        obtain ⟨c0, c1, c3, c4⟩ := cells_pl (HA.out.below ST.out.bel (Nat.le_refl _)) hlt rfl
        have hp := HPA.out k hlt
        obtain ⟨p, hpp⟩ : ∃ p, p = L k := ⟨_, rfl⟩
        rw [← hpp] at c0 c1 c3 c4 hp
        have HP := Lib.hid hpp
        clear hpp
        obtain ⟨hp0, hp1, hp2, hp3⟩ := hp
        obtain ⟨g0, g1, g2, g3, g4⟩ := geo_at ST.out.geo
        by_cases h1 : 1 ≤ p.n
        rotate_left
        · have HF0 : Hid (fineB g L n = false) := Lib.hid (no_fine hlt (not_ok_n HR.out (fun h => h1 (by rw [HP.out]; exact h.1))))
          have t1 : decide (1 ≤ p.n) = false := by simp; omega
          go_wp2_with fail
          go_quiet (fail)
          go_wp2_with fail
          go_loopw [12, 14] (fun fv s wq => fv = .bool false ∧ s = .int .i64 0 ∧ St g L n w b A2 M c2 R N wq (fun j : Nat => covB L k (segs g + j))) (fun _ _ _ => 0)
          case atStart => exact ⟨rfl, rfl, ST.out.drewN _⟩
          case round =>
            obtain ⟨rfl, rfl, hst⟩ := hrel
            have ST5 := Lib.hid hst
            clear hst
            go_wp2_with fail
            go_roundw
            case rel => exact ⟨k + 1, false, _, by omega, by go_num, rfl, fun h => (by cases h), fun _ => HF0.out, ST5.out⟩
            case measure => simp [intOf]; omega
        by_cases h2 : p.n ≤ g.G
        rotate_left
        · have HF0 : Hid (fineB g L n = false) := Lib.hid (no_fine hlt (not_ok_n HR.out (fun h => h2 (by rw [HP.out]; exact h.2))))
          have t1 : decide (1 ≤ p.n) = true := by simp; omega
          have t2 : decide (p.n ≤ g.G) = false := by simp; omega
          go_wp2_with fail
          go_quiet (fail)
          go_wp2_with fail
          go_loopw [12, 14] (fun fv s wq => fv = .bool false ∧ s = .int .i64 0 ∧ St g L n w b A2 M c2 R N wq (fun j : Nat => covB L k (segs g + j))) (fun _ _ _ => 0)
          case atStart => exact ⟨rfl, rfl, ST.out.drewN _⟩
          case round =>
            obtain ⟨rfl, rfl, hst⟩ := hrel
            have ST5 := Lib.hid hst
            clear hst
            go_wp2_with fail
            go_roundw
            case rel => exact ⟨k + 1, false, _, by omega, by go_num, rfl, fun h => (by cases h), fun _ => HF0.out, ST5.out⟩
            case measure => simp [intOf]; omega
        have t1 : decide (1 ≤ p.n) = true := by simp; omega
        have t2 : decide (p.n ≤ g.G) = true := by simp; omega
        go_wp2_with fail
        go_quiet (fail)
        go_wp2_with fail
        clear t1 t2 c0 c1 c3 c4 g0 g1 g2 g3 g4
        go_loopw [12, 14] (fun fv s wq => ∃ (q : Nat) (f : Bool) (T : Nat → Bool), (q : Int) ≤ p.n ∧ s = .int .i64 q ∧ fv = .bool f ∧ (f = true → Gone g L k q ∧ T = fun j : Nat => partB L k q (segs g + j)) ∧ (f = false → fineB g L n = false) ∧ St g L n w b A2 M c2 R N wq T) (fun _ s _ => p.n.toNat - (intOf s).toNat)
        case atStart => exact ⟨0, true, fun j : Nat => covB L k (segs g + j), by omega, rfl, rfl, fun _ => ⟨fun t ht => absurd ht (by omega), funext fun j => (part_0 L k _).symm⟩, fun h => (by cases h), ST.out.drewN _⟩
        case round =>
          clear ST
          obtain ⟨q, f, T, hq, rfl, rfl, hT, hF, hst⟩ := hrel
          have ST := Lib.hid hst
          have HT := Lib.hid hT
          have HF := Lib.hid hF
          clear hst hT hF
          cases f with
          | false =>
            go_wp2_with fail
            go_roundw
            case rel => exact ⟨k + 1, false, T, by omega, by go_num, rfl, fun h => (by cases h), fun _ => HF.out rfl, ST.out⟩
            case measure => simp [intOf]; omega
          | true =>
            obtain ⟨hgo, rfl⟩ := HT.out rfl
            have HGO := Lib.hid hgo
            clear hgo HT HF
            obtain ⟨c0, c1, c3, c4⟩ := cells_pl (HA.out.below ST.out.bel (Nat.le_refl _)) hlt rfl
            rw [← HP.out] at c0 c1 c3 c4
            obtain ⟨g0, g1, g2, g3, g4⟩ := geo_at ST.out.geo
            by_cases hqn : (q : Int) < p.n
            rotate_left
            · have hqe : p.n = q := by omega
              have t1 : decide ((q : Int) < p.n) = false := by simp; omega
              have HOK1 : Hid (OkTo g L (k + 1)) := Lib.hid (gone_all HR.out (by rw [← HP.out]; exact h1) (by rw [← HP.out]; exact h2) (by rw [← HP.out]; exact hqe) HGO.out HOK.out)
              have HQE : Hid ((L k).n = q) := Lib.hid (by rw [← HP.out]; exact hqe)
              clear hqe
              go_wp2_with fail
              go_roundw
              case rel => exact ⟨k + 1, true, _, by omega, by go_num, rfl, fun _ => ⟨HOK1.out, funext fun j => part_end HQE.out _⟩, fun h => (by cases h), ST.out⟩
              case measure => simp [intOf]; omega
            · have t1 : decide ((q : Int) < p.n) = true := by simp; omega
              have hbd : -9223372036854775808 ≤ p.a + q ∧ p.a + q ≤ 9223372036854775807 := by
                rcases Nat.eq_zero_or_pos q with h | h
                · subst h; constructor <;> simp <;> omega
                · obtain ⟨a0, a1, _⟩ := HGO.out 0 h
                  rw [← HP.out] at a1
                  obtain ⟨kk, _, _, h3, h4, _⟩ := in_true HR.out (Prod.ext rfl a1 : inV g p.a = ((inV g p.a).1, true))
                  omega
              have hw1 : IntKind.i64.wrap (p.a + q) = p.a + q := IntWalk.i64_in _ hbd
              obtain ⟨x1, y1, hxy1⟩ : ∃ x y, inV g (p.a + q) = (x, y) := ⟨_, _, rfl⟩
              obtain ⟨x2, y2, hxy2⟩ : ∃ x y, inV g p.a = (x, y) := ⟨_, _, rfl⟩
              have hin1 := fun W => in14 g (p.a + q) W hbd.2
              have hin2 := fun W => in14 g p.a W hp1
              rw [hxy1] at hin1
              rw [hxy2] at hin2
              dsimp only at hin1 hin2
              have I1 := Lib.hid hin1
              have I2 := Lib.hid hin2
              have HX1 := Lib.hid hxy1
              have HX2 := Lib.hid hxy2
              have HBD := Lib.hid hbd
              clear hin1 hin2 hxy1 hxy2 hbd
              go_wp2_with fail
              go_region_held3 (fun w' => w'.cell? ⟨pb, off + k * 4, none⟩ = some (.int .i64 p.a) ∧ w'.cell? ⟨b, 0, none⟩ = some (.int .i64 g.V) ∧ w'.cell? ⟨b, 1, none⟩ = some (.int .i64 g.S) ∧ w'.cell? ⟨b, 2, none⟩ = some (.int .i64 g.G) ∧ w'.cell? ⟨b, 3, none⟩ = some (.int .i64 g.U) ∧ w'.cell? ⟨b, 4, none⟩ = some (.int .i64 g.J)) (go_keep)
                (first | (go_at_call 18; refine (I1.out _).mono ?_; rintro e w5 ⟨rfl, hb5⟩; have ST5 := Lib.hid ((ST.out.drewN 1).go hb5); obtain ⟨c0, c1, c3, c4⟩ := cells_pl (HA.out.below ST5.out.bel (Nat.le_refl _)) hlt rfl; rw [← HP.out] at c0 c1 c3 c4; obtain ⟨g0, g1, g2, g3, g4⟩ := geo_at ST5.out.geo))
              clear hw1
              obtain ⟨c0, c1, c3, c4⟩ := cells_pl (HA.out.below ST5.out.bel (Nat.le_refl _)) hlt rfl
              rw [← HP.out] at c0 c1 c3 c4
              obtain ⟨g0, g1, g2, g3, g4⟩ := geo_at ST5.out.geo
              go_wp2_with fail
              go_region_held3 (fun w' => w'.cell? ⟨pb, off + k * 4, none⟩ = some (.int .i64 p.a) ∧ w'.cell? ⟨b, 0, none⟩ = some (.int .i64 g.V) ∧ w'.cell? ⟨b, 1, none⟩ = some (.int .i64 g.S) ∧ w'.cell? ⟨b, 2, none⟩ = some (.int .i64 g.G) ∧ w'.cell? ⟨b, 3, none⟩ = some (.int .i64 g.U) ∧ w'.cell? ⟨b, 4, none⟩ = some (.int .i64 g.J)) (go_keep)
                (first | (go_at_call 18; refine (I2.out _).mono ?_; rintro e w6 ⟨rfl, hb6⟩; have ST6 := Lib.hid ((ST5.out.drewN 1).go hb6); obtain ⟨c0, c1, c3, c4⟩ := cells_pl (HA.out.below ST6.out.bel (Nat.le_refl _)) hlt rfl; rw [← HP.out] at c0 c1 c3 c4; obtain ⟨g0, g1, g2, g3, g4⟩ := geo_at ST6.out.geo))
              obtain ⟨g0, g1, g2, g3, g4⟩ := geo_at ST6.out.geo
              clear hb5 hb6 ST ST5
              by_cases hgood : y1 = true ∧ y2 = true ∧ x1 = x2
              rotate_left
              · have HF1 : Hid (fineB g L n = false) := Lib.hid (out_fine HR.out hlt (by rw [← HP.out]; exact hqn) (by rw [← HP.out, HX1.out, HX2.out]; exact hgood))
                cases y1 with
                | false =>
                  go_wp2_with fail
                  go_roundw
                  case rel => exact ⟨k + 1, false, _, by omega, by go_num, rfl, fun h => (by cases h), fun _ => HF1.out, ST6.out⟩
                  case measure => simp [intOf]; omega
                | true =>
                  cases y2 with
                  | false =>
                    go_wp2_with fail
                    go_roundw
                    case rel => exact ⟨k + 1, false, _, by omega, by go_num, rfl, fun h => (by cases h), fun _ => HF1.out, ST6.out⟩
                    case measure => simp [intOf]; omega
                  | true =>
                    have t3 : (x1 != x2) = true := by simp; exact fun e => hgood ⟨rfl, rfl, e⟩
                    go_wp2_with fail
                    go_roundw
                    case rel => exact ⟨k + 1, false, _, by omega, by go_num, rfl, fun h => (by cases h), fun _ => HF1.out, ST6.out⟩
                    case measure => simp [intOf]; omega
              · obtain ⟨h11, h12, h13⟩ := hgood
                subst h11 h12 h13
                obtain ⟨kk, rfl, hkS, ha0, ha1, hz0, hz1⟩ := in_true HR.out HX2.out
                have hsp := in_spec HR.out HX1.out
                have hsb := seg_bd (fine_right HR.out) (k := (kk : Int)) (by omega) hkS
                have hse := seg_at HR.out hkS
                have hsp2 := segs_pos HR.out
                obtain ⟨m, hm⟩ : ∃ m : Nat, (kk : Int) * g.G = m := ⟨((kk : Int) * g.G).toNat, by omega⟩
                rw [hm] at hsp hsb hse
                rw [HN.out] at hsb
                obtain ⟨z, hz⟩ : ∃ z, z = segV g kk := ⟨_, rfl⟩
                have hseg := fun W => seg15 g kk W
                rw [← hz] at hseg hse hz0 hz1
                have HSEG := Lib.hid hseg
                obtain ⟨sg, hsg⟩ : ∃ sg, sg = segs g := ⟨_, rfl⟩
                have HSG := Lib.hid hsg
                rw [← hsg] at hsp hse hsp2
                obtain ⟨X, hX⟩ : ∃ X : Nat, p.a + q - sg = X := ⟨(p.a + q - sg).toNat, by omega⟩
                have HXE : Hid (sg + (X : Int) = p.a + q) := Lib.hid (by omega)
                have hwa : IntKind.i64.wrap ((kk : Int) * g.G) = m := by rw [hm]; exact IntWalk.i64_in _ (by omega)
                have hwb : IntKind.i64.wrap ((m : Int) + p.a) = m + p.a := IntWalk.i64_in _ (by omega)
                have hwc : IntKind.i64.wrap ((m : Int) + p.a + q) = m + p.a + q := IntWalk.i64_in _ (by omega)
                have hwd : IntKind.i64.wrap ((m : Int) + p.a + q - z) = X := by rw [IntWalk.i64_in _ (by omega)]; omega
                have hXN : X < N := by omega
                clear hm hse hsp hsb hz hseg hX hsg hsp2
                go_wp2_with fail
                go_region_held3 (fun w' => w'.cell? ⟨pb, off + k * 4, none⟩ = some (.int .i64 p.a) ∧ w'.cell? ⟨b, 0, none⟩ = some (.int .i64 g.V) ∧ w'.cell? ⟨b, 1, none⟩ = some (.int .i64 g.S) ∧ w'.cell? ⟨b, 2, none⟩ = some (.int .i64 g.G) ∧ w'.cell? ⟨b, 3, none⟩ = some (.int .i64 g.U) ∧ w'.cell? ⟨b, 4, none⟩ = some (.int .i64 g.J)) (go_keep)
                  (first | (go_at_call 19; refine (HSEG.out _).mono ?_; rintro e w7 ⟨rfl, hb7⟩; have ST7 := Lib.hid ((ST6.out.drewN 1).go hb7); obtain ⟨c0, c1, c3, c4⟩ := cells_pl (HA.out.below ST7.out.bel (Nat.le_refl _)) hlt rfl; rw [← HP.out] at c0 c1 c3 c4; obtain ⟨g0, g1, g2, g3, g4⟩ := geo_at ST7.out.geo))
                clear hwa hwb hwc hwd hb7 ST6
                have rc := (ST7.out.taken.cellAt X (by omega)).trans (boolRow_at hXN)
                have rf := ST7.out.taken.frozenAt X
                have HXE2 : Hid (segs g + (X : Int) = (L k).a + q) := Lib.hid (by rw [← HSG.out, ← HP.out]; exact HXE.out)
                have ebv : partB L k q (segs g + X) = covB L k ((L k).a + q) := by rw [HXE2.out]; exact part_at L k q
                obtain ⟨bv, hbv⟩ : ∃ bv, bv = covB L k ((L k).a + q) := ⟨_, rfl⟩
                try dsimp only at rc
                rw [ebv, ← hbv] at rc
                have HBV := Lib.hid hbv
                have STX : Hid (St g L n w b A2 M c2 R N (w7.setCell ⟨R, X, none⟩ (.bool true)) (fun j : Nat => partB L k (q + 1) (segs g + j))) := Lib.hid (ST7.out.set (by rw [HXE2.out]; exact part_s L k q) fun j _ hj => part_o fun e => hj (by have := HXE2.out; omega))
                have HGO1 : Hid (bv = false → Gone g L k (q + 1)) := Lib.hid fun hf t ht => by
                  rcases Nat.lt_or_ge t q with h | h
                  · exact HGO.out t h
                  · obtain rfl : t = q := by omega
                    refine ⟨?_, ?_, by rw [← HBV.out]; exact hf⟩
                    · rw [← HP.out, HX1.out, HX2.out]
                    · rw [← HP.out, HX2.out]
                have HF1 : Hid (bv = true → fineB g L n = false) := Lib.hid fun hf => cov_meet hlt (by rw [← HP.out]; exact hqn) (by rw [← HBV.out]; exact hf)
                have j1 : (0 : Int) ≤ X := by omega
                clear ebv hbv
                cases bv with
                | true =>
                  go_wp2_with fail
                  go_roundw
                  case rel => exact ⟨q + 1, false, _, by omega, by go_num, rfl, fun h => (by cases h), fun _ => HF1.out rfl, STX.out⟩
                  case measure => simp [intOf]; omega
                | false =>
                  go_wp2_with fail
                  go_roundw
                  case rel => exact ⟨q + 1, true, _, by omega, by go_num, rfl, fun _ => ⟨HGO1.out rfl, rfl⟩, fun h => (by cases h), STX.out⟩
                  case measure => simp [intOf]; omega
      · obtain rfl : k = n := by omega
        have hf := okTo_fine HOK.out
        obtain ⟨hE0, hMS⟩ := HEM.out.1 hf
        have HFN := Lib.hid hf
        subst hE0
        obtain ⟨e0, e1, e2, e3, e4⟩ := geo_at ST.out.geo
        have u1 : ((M : Int) != g.S) = false := by simp [hMS]
        have HMS := Lib.hid hMS
        clear hMS hf
        obtain ⟨hpp, -⟩ : ∃ q, q = 0 := ⟨_, rfl⟩
        go_wp2_with fail
        have HU : Hid (Arr wr wr.heap.size A2 M fun j => .int .i64 (cntP g L j k)) := Lib.hid (row_cellsI ST.out.used)
        go_loop [20] (fun i => ∃ j : Nat, (j : Int) ≤ g.S ∧ i = .int .i64 j) (fun i => g.S.toNat - (intOf i).toNat)
        case atStart => exact ⟨0, by omega, rfl⟩
        case round =>
          obtain ⟨j, hj, rfl⟩ := hrel
          by_cases hlt : (j : Int) < g.S
          · have t1 : decide ((j : Int) < g.S) = true := by simp; omega
            have hsb := seg_bd (fine_right HR.out) (k := (j : Int)) (by omega) hlt
            obtain ⟨m, hm⟩ : ∃ m : Nat, (j : Int) * g.G = m := ⟨((j : Int) * g.G).toNat, by omega⟩
            rw [HN.out, hm] at hsb
            have hwa : IntKind.i64.wrap ((j : Int) * g.G) = m := by rw [hm]; exact IntWalk.i64_in _ (by omega)
            obtain ⟨F, hFF⟩ : ∃ F : Nat → Bool, F = fun s : Nat => covB L k (segs g + j * g.G + s) := ⟨_, rfl⟩
            have HFC : Hid ((cntB F g.G.toNat : Int) = cntP g L j k) := Lib.hid (by rw [hFF]; exact cnt_seg HR.out j hlt k HFN.out)
            have HFV : Hid (∀ q : Nat, covB L k (segs g + ((m + q : Nat) : Int)) = F q) := Lib.hid fun q => by rw [hFF, hm]; congr 1; omega
            have HFL := Lib.hid (cntB_le F)
            have HM := Lib.hid hm
            clear hFF hm
            go_wp2_with fail
            go_loop [21, 22] (fun v s => ∃ q : Nat, (q : Int) ≤ g.G ∧ s = .int .i64 q ∧ v = .int .i64 (cntB F q : Nat)) (fun _ s => g.G.toNat - (intOf s).toNat)
            case atStart => exact ⟨0, by omega, rfl, rfl⟩
            case round =>
              obtain ⟨q, hq, rfl, rfl⟩ := hrel
              have hcl := HFL.out q
              have HCS : Hid (cntB F (q + 1) = cntB F q + if F q = true then 1 else 0) := Lib.hid rfl
              obtain ⟨cc, hcc⟩ : ∃ cc, cc = cntB F q := ⟨_, rfl⟩
              rw [← hcc] at hcl HCS ⊢
              have HCC := Lib.hid hcc
              clear hcc
              by_cases hql : (q : Int) < g.G
              · have t2 : decide ((q : Int) < g.G) = true := by simp; omega
                obtain ⟨Z, hZ⟩ : ∃ Z : Nat, m + q = Z := ⟨_, rfl⟩
                have hwb : IntKind.i64.wrap ((m : Int) + q) = Z := by rw [IntWalk.i64_in _ (by omega)]; omega
                have hZN : Z < N := by omega
                have rc := (ST.out.taken.cellAt Z (by omega)).trans (boolRow_at hZN)
                try dsimp only at rc
                have hv := HFV.out q
                rw [hZ] at hv
                rw [hv] at rc
                have j1 : (0 : Int) ≤ Z := by omega
                obtain ⟨bv, hbv⟩ : ∃ bv, bv = F q := ⟨_, rfl⟩
                rw [← hbv] at rc HCS
                clear hv hbv hZ
                cases bv with
                | true =>
                  have HC1 : Hid (cntB F (q + 1) = cc + 1) := Lib.hid (by rw [HCS.out]; rfl)
                  go_wp2_with fail
                  go_round
                  case rel => exact ⟨q + 1, by omega, by go_num, by rw [HC1.out]; go_num⟩
                  case measure => simp [intOf]; omega
                | false =>
                  have HC1 : Hid (cntB F (q + 1) = cc) := Lib.hid (by rw [HCS.out]; rfl)
                  go_wp2_with fail
                  go_round
                  case rel => exact ⟨q + 1, by omega, by go_num, by rw [HC1.out]⟩
                  case measure => simp [intOf]; omega
              · have t2 : decide ((q : Int) < g.G) = false := by simp; omega
                obtain ⟨ub, uo, rfl, hub, huc⟩ := HU.out (by have := HMS.out; omega)
                have uc := huc j (by have := HMS.out; omega)
                dsimp only at uc
                have hqG : q = g.G.toNat := by omega
                have hcp : cntP g L j k = (cc : Int) := by rw [← HFC.out, HCC.out, hqG]
                rw [hcp] at uc
                have t3 : ((cc : Int) != cc) = false := by simp
                have t4 : decide (g.G < (cc : Int)) = false := by simp; omega
                have hjM : j < M := by have := HMS.out; omega
                clear huc hqG hcp
                go_wp2_with fail
                go_round
                case rel => exact ⟨j + 1, by omega, by go_num⟩
                case measure => simp [intOf]; omega
          · have t1 : decide ((j : Int) < g.S) = false := by simp; omega
            have u2 : ((M : Int) == g.S) = true := by simp [HMS.out]
            by_cases hk0 : k = 0
            · subst hk0
              have hfr := fun q => free14 (fun j => cntP g L j 0) A2 M c2 _ (wr.drewN q) (by omega) (HU.out.drewN q)
              have hfe : freeN (fun j => cntP g L j 0) M = M := freeN_all fun i _ => rfl
              rw [hfe] at hfr
              have HFR := Lib.hid hfr
              clear hfr
              go_wp2_with fail
              go_quiet ((go_at_call 14; exact quiet_left (HFR.out _)))
              go_wp2_with fail
              go_ret
              exact ⟨rfl, below_drewN ST.out.bel _⟩
            · have t5 : ((k : Int) == 0) = false := by simp; omega
              clear t1 u2 u1
              go_wp2_with fail
              refine (pick9 y k _ (by omega) (by omega)).mono ?_
              rintro e _ ⟨rfl, rfl⟩
              have hm0 := Int.emod_nonneg y (show (k : Int) ≠ 0 by omega)
              have hm1 := Int.emod_lt_of_pos y (show (0 : Int) < k by omega)
              obtain ⟨t, ht⟩ : ∃ t : Nat, y % (k : Int) = t := ⟨(y % (k : Int)).toNat, by omega⟩
              rw [ht] at hm0 hm1 ⊢
              clear ht
              have htk : t < k := by omega
              have htk2 : t ≤ k := by omega
              have htc : t ≤ c := by have := HCC.out; omega
              obtain ⟨pb, off, rfl, hpb, -⟩ := (HA.out.below ST.out.bel (Nat.le_refl _)) (by omega)
              have GE : Hid (∀ W, Below wr.heap.size wr W → (fun w' : World => w'.cell? ⟨b, 0, none⟩ = some (.int .i64 g.V) ∧ w'.cell? ⟨b, 1, none⟩ = some (.int .i64 g.S) ∧ w'.cell? ⟨b, 2, none⟩ = some (.int .i64 g.G) ∧ w'.cell? ⟨b, 3, none⟩ = some (.int .i64 g.U) ∧ w'.cell? ⟨b, 4, none⟩ = some (.int .i64 g.J)) W) := Lib.hid fun W h => geo_at (ST.out.go h).geo
              have HTL : Hid (∀ W, Below wr.heap.size wr W → SArr W W.heap.size (some ⟨pb, off + t * 4, none⟩) (k - t) 4 fun i => encP (L (t + i))) := Lib.hid fun W h => sarr_tail (HA.out.below (ST.out.go h).bel (Nat.le_refl _)) (ST.out.go h).bel.size htk
              have HHD : Hid (∀ W, Below wr.heap.size wr W → SArr W W.heap.size (some ⟨pb, off, none⟩) t 4 fun i => encP (L i)) := Lib.hid fun W h => ((HA.out.below (ST.out.go h).bel (Nat.le_refl _)).more (ST.out.go h).bel.size).less (by omega)
              have hcc := HCC.out
              have hct : ¬ c = t := by omega
              have hc0 : ¬ c = 0 := by omega
              have HU9 := Lib.hid (again_used HR.out HFN.out HMS.out htk HPB.out)
              have HRG : Hid (∀ i, i < k → okP g (L i) = true) := Lib.hid HOK.out.1
              obtain ⟨i1, hi, hz0, hz1, hz2⟩ := infoParts infoP
              have HKT : Hid (k - t + t = k) := Lib.hid (by omega)
              go_wp2_with fail
              refine wp_region_held_drew (S := (fun w' => w'.cell? ⟨b, 0, none⟩ = some (.int .i64 g.V) ∧ w'.cell? ⟨b, 1, none⟩ = some (.int .i64 g.S) ∧ w'.cell? ⟨b, 2, none⟩ = some (.int .i64 g.G) ∧ w'.cell? ⟨b, 3, none⟩ = some (.int .i64 g.U) ∧ w'.cell? ⟨b, 4, none⟩ = some (.int .i64 g.J))) follows (GE.out _ (below_drewN (Below.refl _ wr) 1)) (fun hHeld => ?_)
              refine wpAnyH_take (i := 0) (v := ?_) (by simp only [List.getElem?_toArray, List.getElem?_cons_zero]; rfl) (by kernel_rfl) (by kernel_rfl) (by kernel_rfl) (by intro _ _ _ h; exact h) (Or.inl ⟨by rfl, ?_⟩) hHeld ?_
              rotate_left
              · (intro w hSw; (try dsimp only at hSw); go_simp; try with_reducible rfl)
              try simp only [Act.put, List.setIfInBounds_toArray, List.set_cons_zero, List.set_cons_succ]
              refine wpAnyH_take (i := 1) (v := ?_) (by simp only [List.getElem?_toArray, List.getElem?_cons_zero, List.getElem?_cons_succ]; rfl) (by kernel_rfl) (by kernel_rfl) (by kernel_rfl) (by intro _ _ _ h; exact h) (Or.inl ⟨by rfl, ?_⟩) hHeld ?_
              rotate_left
              · (intro w hSw; (try dsimp only at hSw); go_simp; try with_reducible rfl)
              try simp only [Act.put, List.setIfInBounds_toArray, List.set_cons_zero, List.set_cons_succ]
              refine wpAnyH_take (i := 2) (v := ?_) (by simp only [List.getElem?_toArray, List.getElem?_cons_zero, List.getElem?_cons_succ]; rfl) (by kernel_rfl) (by kernel_rfl) (by kernel_rfl) (by intro _ _ _ h; exact h) (Or.inl ⟨by rfl, ?_⟩) hHeld ?_
              rotate_left
              · (intro w hSw; (try dsimp only at hSw); go_simp; try with_reducible rfl)
              try simp only [Act.put, List.setIfInBounds_toArray, List.set_cons_zero, List.set_cons_succ]
              refine wpAnyH_take (i := 3) (v := ?_) (by simp only [List.getElem?_toArray, List.getElem?_cons_zero, List.getElem?_cons_succ]; rfl) (by kernel_rfl) (by kernel_rfl) (by kernel_rfl) (by intro _ _ _ h; exact h) (Or.inl ⟨by rfl, ?_⟩) hHeld ?_
              rotate_left
              · (intro w hSw; (try dsimp only at hSw); go_simp; try with_reducible rfl)
              try simp only [Act.put, List.setIfInBounds_toArray, List.set_cons_zero, List.set_cons_succ]
              refine wpAnyH_take (i := 5) (v := ?_) (by simp only [List.getElem?_toArray, List.getElem?_cons_zero, List.getElem?_cons_succ]; rfl) (by kernel_rfl) (by kernel_rfl) (by kernel_rfl) (by intro _ _ _ h; exact h) (Or.inl ⟨by rfl, ?_⟩) hHeld ?_
              rotate_left
              · (intro w hSw; (try dsimp only at hSw); go_simp; try with_reducible rfl)
              try simp only [Act.put, List.setIfInBounds_toArray, List.set_cons_zero, List.set_cons_succ]
              refine wpAnyH_take (i := 6) (v := ?_) (by simp only [List.getElem?_toArray, List.getElem?_cons_zero, List.getElem?_cons_succ]; rfl) (by kernel_rfl) (by kernel_rfl) (by kernel_rfl) (by intro _ _ _ h; exact h) (Or.inl ⟨by rfl, ?_⟩) hHeld ?_
              rotate_left
              · (intro w hSw; (try dsimp only at hSw); go_simp; try with_reducible rfl)
              try simp only [Act.put, List.setIfInBounds_toArray, List.set_cons_zero, List.set_cons_succ]
              refine wpAnyH_take (i := 7) (v := ?_) (by simp only [List.getElem?_toArray, List.getElem?_cons_zero, List.getElem?_cons_succ]; rfl) (by kernel_rfl) (by kernel_rfl) (by kernel_rfl) (by intro _ _ _ h; exact h) (Or.inl ⟨by rfl, ?_⟩) hHeld ?_
              rotate_left
              · (intro w hSw; (try dsimp only at hSw); go_simp; try with_reducible rfl)
              try simp only [Act.put, List.setIfInBounds_toArray, List.set_cons_zero, List.set_cons_succ]
              refine wpAnyH_ready (rs := [4]) (by kernel_rfl) (by simp) ?_
              refine AllReadyH.cons (by simp only [List.getElem?_toArray, List.getElem?_cons_zero, List.getElem?_cons_succ]; rfl) (fun K hK => ?_) AllReadyH.nil
              rw [if_pos (by rfl)]
              go_simp
              refine (copyPl (fun i => L (t + i)) (some ⟨pb, off + t * 4, none⟩) (k - t) (c - t) _ (by omega) (HTL.out _ (below_drewN (Below.refl _ wr) 1)) (fun h => by cases h)).mono ?_
              rintro e w8 ⟨v8, rfl, hr8, hb8⟩
              have B8 : Hid (Below wr.heap.size wr w8) := Lib.hid ((below_drewN (Below.refl _ wr) 1).trans hb8)
              have R8 : Hid (w8.ownsRow wr.heap.size 42 4 v8 (k - t) (flatS (fun i => encP (L (t + i))) (k - t))) := Lib.hid hr8
              refine hK.out _ _ (GE.out _ B8.out) (fun hHeld => ?_)
              clear hK K hb8 hr8
              try simp only [Act.put, List.setIfInBounds_toArray, List.set_cons_zero, List.set_cons_succ]
              refine wpAnyH_ready (rs := [8]) (by kernel_rfl) (by simp) ?_
              refine AllReadyH.cons (by simp only [List.getElem?_toArray, List.getElem?_cons_zero, List.getElem?_cons_succ]; rfl) (fun K hK => ?_) AllReadyH.nil
              rw [if_pos (by rfl)]
              refine wp_append_any (.tmp 219) (.tmp 222) 24 rfl wr.heap.size 42 i1 (.agg #[.int .i64 0, .int .i64 0, .int .i64 0, .int .i64 0]) 4 32 Try.underlying24 hi hz0 hz1 hz2 rfl (by decide) v8 (k - t) (flatS (fun i => encP (L (t + i))) (k - t)) rfl R8.out (some ⟨pb, off, none⟩) t c (flatS (fun i => encP (L i)) t) rfl (fun h => by cases h) (flatS_len (wideP L) t) (fun ad e => (HHD.out _ B8.out).cellsAt (wideP L) ad e) (oneP L t) (by unfold maxLen; omega) (by omega) B8.out.size ?_
              intro v9 w9 hr9 hg9
              rw [flatS_cat, HKT.out] at hr9
              have hr9' : w9.ownsRow wr.heap.size 42 4 v9 k (flatS (fun i => encP (rotL L k t i)) k) := hr9
              have B9 : Hid (Below wr.heap.size wr w9) := Lib.hid (B8.out.grown hg9 B8.out.size (fun k hk => (row_lt R8.out hk).1))
              obtain ⟨A9, c9, rfl⟩ := row_shapeS hr9'
              obtain ⟨g9, rfl⟩ := row_someS hr9' (by have := row_le_capS hr9'; omega)
              obtain ⟨A9', c9', ev9, ha9, _⟩ := srow_arr (wideP (rotL L k t)) hr9'
              injection ev9 with ev9 ev9b ev9c
              rw [← ev9] at ha9
              clear ev9b ev9c
              have HA9 := Lib.hid ha9
              refine hK.out _ _ (GE.out _ B9.out) (fun hHeld => ?_)
              clear hK K hr9 hr9' hg9 ha9 ev9 R8
              try simp only [Act.put, List.setIfInBounds_toArray, List.set_cons_zero, List.set_cons_succ]
              refine wpAnyH_ready (rs := [9]) (by kernel_rfl) (by simp) ?_
              refine AllReadyH.cons (by simp only [List.getElem?_toArray, List.getElem?_cons_zero, List.getElem?_cons_succ]; rfl) (fun K hK => ?_) AllReadyH.nil
              rw [if_pos (by rfl)]
              go_simp
              refine (HU9.out w9 (some ⟨g9, 0, none⟩) c9 (by omega) HA9.out (fun h => by cases h) spot0).mono ?_
              rintro e w10 ⟨A10, c10, rfl, ha10, hb10⟩
              have B10 : Hid (Below wr.heap.size wr w10) := Lib.hid (B9.out.trans (hb10.mono B9.out.size))
              have HA10 := Lib.hid ha10
              refine hK.out _ _ (GE.out _ B10.out) (fun hHeld => ?_)
              clear hK K hb10 ha10 HA9
              try simp only [Act.put, List.setIfInBounds_toArray, List.set_cons_zero, List.set_cons_succ]
              refine wpAnyH_take (i := 10) (v := ?_) (by simp only [List.getElem?_toArray, List.getElem?_cons_zero, List.getElem?_cons_succ]; rfl) (by kernel_rfl) (by kernel_rfl) (by kernel_rfl) (by intro _ _ _ h; exact h) (Or.inl ⟨by rfl, ?_⟩) hHeld ?_
              rotate_left
              · (intro w hSw; (try dsimp only at hSw); go_simp; try with_reducible rfl)
              try simp only [Act.put, List.setIfInBounds_toArray, List.set_cons_zero, List.set_cons_succ]
              refine wpAnyH_take (i := 11) (v := ?_) (by simp only [List.getElem?_toArray, List.getElem?_cons_zero, List.getElem?_cons_succ]; rfl) (by kernel_rfl) (by kernel_rfl) (by kernel_rfl) (by intro _ _ _ h; exact h) (Or.inl ⟨by rfl, ?_⟩) hHeld ?_
              rotate_left
              · (intro w hSw; (try dsimp only at hSw); go_simp; try with_reducible rfl)
              try simp only [Act.put, List.setIfInBounds_toArray, List.set_cons_zero, List.set_cons_succ]
              refine wpAnyH_take (i := 12) (v := ?_) (by simp only [List.getElem?_toArray, List.getElem?_cons_zero, List.getElem?_cons_succ]; rfl) (by kernel_rfl) (by kernel_rfl) (by kernel_rfl) (by intro _ _ _ h; exact h) (Or.inl ⟨by rfl, ?_⟩) hHeld ?_
              rotate_left
              · (intro w hSw; (try dsimp only at hSw); go_simp; try with_reducible rfl)
              try simp only [Act.put, List.setIfInBounds_toArray, List.set_cons_zero, List.set_cons_succ]
              refine wpAnyH_take (i := 13) (v := ?_) (by simp only [List.getElem?_toArray, List.getElem?_cons_zero, List.getElem?_cons_succ]; rfl) (by kernel_rfl) (by kernel_rfl) (by kernel_rfl) (by intro _ _ _ h; exact h) (Or.inl ⟨by rfl, ?_⟩) hHeld ?_
              rotate_left
              · (intro w hSw; (try dsimp only at hSw); go_simp; try with_reducible rfl)
              try simp only [Act.put, List.setIfInBounds_toArray, List.set_cons_zero, List.set_cons_succ]
              refine wpAnyH_take (i := 14) (v := ?_) (by simp only [List.getElem?_toArray, List.getElem?_cons_zero, List.getElem?_cons_succ]; rfl) (by kernel_rfl) (by kernel_rfl) (by kernel_rfl) (by intro _ _ _ h; exact h) (Or.inl ⟨by rfl, ?_⟩) hHeld ?_
              rotate_left
              · (intro w hSw; (try dsimp only at hSw); go_simp; try with_reducible rfl)
              try simp only [Act.put, List.setIfInBounds_toArray, List.set_cons_zero, List.set_cons_succ]
              refine wpAnyH_done (by kernel_rfl) ?_ _
              clear hHeld
              clear hHeld
              go_wp2_with fail
              refine (pick9 x k _ (by omega) (by omega)).mono ?_
              rintro e _ ⟨rfl, rfl⟩
              have hm2 := Int.emod_nonneg x (show (k : Int) ≠ 0 by omega)
              have hm3 := Int.emod_lt_of_pos x (show (0 : Int) < k by omega)
              obtain ⟨j2, hj2⟩ : ∃ t : Nat, x % (k : Int) = t := ⟨(x % (k : Int)).toNat, by omega⟩
              rw [hj2] at hm2 hm3 ⊢
              clear hj2
              have hjk : j2 < k := by omega
              have ST10 := Lib.hid (ST.out.go B10.out)
              obtain ⟨c0, c1, c3, c4⟩ := cells_pl (HA.out.below ST10.out.bel (Nat.le_refl _)) hjk rfl
              have hpo := ok_bd HR.out (HRG.out j2 hjk)
              obtain ⟨p, hpp⟩ : ∃ p, p = L j2 := ⟨_, rfl⟩
              rw [← hpp] at c0 c1 c3 c4 hpo
              have HP := Lib.hid hpp
              obtain ⟨hp1, hp2, hp3, hp4⟩ := hpo
              have hwa : IntKind.i64.wrap (p.a + p.n) = p.a + p.n := IntWalk.i64_in _ (by omega)
              have hwb : IntKind.i64.wrap (p.a + p.n - 1) = p.a + p.n - 1 := IntWalk.i64_in _ (by omega)
              clear hpp
              go_upto_region 43 with fail
              obtain ⟨b25, hb25⟩ : ∃ z, z = w10.heap.size := ⟨_, rfl⟩
              obtain ⟨w11, hw11⟩ : ∃ z, z = w10.alloc (.cells #[.int .i64 (p.a + p.n - 1), .int .i64 1, .int .i64 p.u, .int .i64 p.r] 42) := ⟨_, rfl⟩
              have K11 : Hid (w11.heap[b25]? = some (.cells #[.int .i64 (p.a + p.n - 1), .int .i64 1, .int .i64 p.u, .int .i64 p.r] 42 (0, 0))) := Lib.hid (by rw [hw11]; exact heap_new_at (w := w10) _ hb25)
              have B11 : Hid (Below wr.heap.size wr w11) := Lib.hid (by rw [hw11]; exact B10.out.alloc B10.out.size _)
              have HA11 : Hid (Arr w11 w11.heap.size A10 M (fun j => .int .i64 (cntP g L j k))) := Lib.hid ((HA10.out.below (by rw [hw11]; exact (Below.refl _ _).alloc (Nat.le_refl _) _) (Nat.le_refl _)).more (by rw [hw11]; simp))
              rw [← hw11, ← hb25]
              clear hw11 hb25 c0 c1 c3 c4 hwa hwb
              have HC : Hid (∀ W, Below w11.heap.size w11 W → (fun w' : World => (w'.cell? ⟨b, 0, none⟩ = some (.int .i64 g.V) ∧ w'.cell? ⟨b, 1, none⟩ = some (.int .i64 g.S) ∧ w'.cell? ⟨b, 2, none⟩ = some (.int .i64 g.G) ∧ w'.cell? ⟨b, 3, none⟩ = some (.int .i64 g.U) ∧ w'.cell? ⟨b, 4, none⟩ = some (.int .i64 g.J)) ∧ (w'.cell? ⟨b25, 0, none⟩ = some (.int .i64 (p.a + p.n - 1)) ∧ w'.cell? ⟨b25, 1, none⟩ = some (.int .i64 1) ∧ w'.cell? ⟨b25, 2, none⟩ = some (.int .i64 p.u) ∧ w'.cell? ⟨b25, 3, none⟩ = some (.int .i64 p.r))) W) := Lib.hid fun W h => ⟨GE.out W (B11.out.trans (h.mono B11.out.size)), box4 (p := ⟨p.a + p.n - 1, 1, p.u, p.r⟩) ((h.block b25 (heap_lt K11.out)).trans K11.out)⟩
              have HSA : Hid (∀ W, Below w11.heap.size w11 W → SArr W W.heap.size (some ⟨pb, off, none⟩) k 4 fun i => encP (L i)) := Lib.hid fun W h => by have hh := B11.out.trans (h.mono B11.out.size); exact (HA.out.below (ST.out.go hh).bel (Nat.le_refl _)).more (ST.out.go hh).bel.size
              have HBA : Hid (∀ W, Below w11.heap.size w11 W → Arr W W.heap.size A10 M (fun j => .int .i64 (cntP g L j k)) ∧ Arr W W.heap.size A2 M (fun j => .int .i64 (cntP g L j k)) ∧ Below w.heap.size w W) := Lib.hid fun W h => ⟨(HA11.out.below h (Nat.le_refl _)).more h.size, row_cellsI (ST.out.go (B11.out.trans (h.mono B11.out.size))).used, (ST.out.go (B11.out.trans (h.mono B11.out.size))).bel⟩
              have HMU := Lib.hid (more_used (g := g) HR.out hjk (p := ⟨p.a + p.n - 1, 1, p.u, p.r⟩) (by rw [← HP.out]; exact last_meet hp1) HPB.out ⟨by dsimp only; omega, by dsimp only; omega, by dsimp only; omega⟩)
              have HB0 : Hid (Below w11.heap.size w11 (w11.drewN 1)) := Lib.hid (below_drewN (Below.refl _ _) 1)
              refine wp_region_held_drew (S := (fun w' : World => (w'.cell? ⟨b, 0, none⟩ = some (.int .i64 g.V) ∧ w'.cell? ⟨b, 1, none⟩ = some (.int .i64 g.S) ∧ w'.cell? ⟨b, 2, none⟩ = some (.int .i64 g.G) ∧ w'.cell? ⟨b, 3, none⟩ = some (.int .i64 g.U) ∧ w'.cell? ⟨b, 4, none⟩ = some (.int .i64 g.J)) ∧ (w'.cell? ⟨b25, 0, none⟩ = some (.int .i64 (p.a + p.n - 1)) ∧ w'.cell? ⟨b25, 1, none⟩ = some (.int .i64 1) ∧ w'.cell? ⟨b25, 2, none⟩ = some (.int .i64 p.u) ∧ w'.cell? ⟨b25, 3, none⟩ = some (.int .i64 p.r)))) follows (HC.out _ HB0.out) (fun hHeld => ?_)
              refine wpAnyH_take (i := 0) (v := ?_) (by simp only [List.getElem?_toArray, List.getElem?_cons_zero]; rfl) (by kernel_rfl) (by kernel_rfl) (by kernel_rfl) (by intro _ _ _ h; exact h) (Or.inl ⟨by rfl, ?_⟩) hHeld ?_
              rotate_left
              · (intro w hSw; (try dsimp only at hSw); go_simp; try with_reducible rfl)
              try simp only [Act.put, List.setIfInBounds_toArray, List.set_cons_zero, List.set_cons_succ]
              refine wpAnyH_take (i := 1) (v := ?_) (by simp only [List.getElem?_toArray, List.getElem?_cons_zero, List.getElem?_cons_succ]; rfl) (by kernel_rfl) (by kernel_rfl) (by kernel_rfl) (by intro _ _ _ h; exact h) (Or.inl ⟨by rfl, ?_⟩) hHeld ?_
              rotate_left
              · (intro w hSw; (try dsimp only at hSw); go_simp; try with_reducible rfl)
              try simp only [Act.put, List.setIfInBounds_toArray, List.set_cons_zero, List.set_cons_succ]
              refine wpAnyH_take (i := 3) (v := ?_) (by simp only [List.getElem?_toArray, List.getElem?_cons_zero, List.getElem?_cons_succ]; rfl) (by kernel_rfl) (by kernel_rfl) (by kernel_rfl) (by intro _ _ _ h; exact h) (Or.inl ⟨by rfl, ?_⟩) hHeld ?_
              rotate_left
              · (intro w hSw; (try dsimp only at hSw); go_simp; try with_reducible rfl)
              try simp only [Act.put, List.setIfInBounds_toArray, List.set_cons_zero, List.set_cons_succ]
              refine wpAnyH_ready (rs := [2, 4]) (by kernel_rfl) (by simp) ?_
              refine AllReadyH.cons (by simp only [List.getElem?_toArray, List.getElem?_cons_zero, List.getElem?_cons_succ]; rfl) (fun K hK => ?_) (AllReadyH.cons (by simp only [List.getElem?_toArray, List.getElem?_cons_zero, List.getElem?_cons_succ]; rfl) (fun K hK => ?_) AllReadyH.nil)
              · rw [if_pos (by rfl)]
                go_simp
                refine (copyPl L (some ⟨pb, off, none⟩) k c _ (by omega) (HSA.out _ HB0.out) (fun h => by cases h)).mono ?_
                rintro e w12 ⟨v8, rfl, hr8, hb8⟩
                have HB1 := Lib.hid (HB0.out.trans (hb8.mono HB0.out.size))
                have R8 : Hid (w12.ownsRow w11.heap.size 42 4 v8 k (flatS (fun i => encP (L i)) k)) := Lib.hid (row_more hr8 HB0.out.size)
                refine hK.out _ _ (HC.out _ HB1.out) (fun hHeld => ?_)
                clear hK K hb8 hr8
                try simp only [Act.put, List.setIfInBounds_toArray, List.set_cons_zero, List.set_cons_succ]
                refine wpAnyH_ready (rs := [4]) (by kernel_rfl) (by simp) ?_
                refine AllReadyH.cons (by simp only [List.getElem?_toArray, List.getElem?_cons_zero, List.getElem?_cons_succ]; rfl) (fun K hK => ?_) AllReadyH.nil
                rw [if_pos (by rfl)]
                go_simp
                obtain ⟨sL, hsL⟩ : ∃ z, z = (w12).heap.size := ⟨_, rfl⟩
                have HB2 : Hid (Below w11.heap.size w11 ((w12).alloc (.cells #[.int .i64 (p.a + p.n - 1), .int .i64 1, .int .i64 p.u, .int .i64 p.r] 42))) := Lib.hid (HB1.out.alloc HB1.out.size _)
                have KL : Hid (((w12).alloc (.cells #[.int .i64 (p.a + p.n - 1), .int .i64 1, .int .i64 p.u, .int .i64 p.r] 42)).heap[sL]? = some (.cells #[.int .i64 (p.a + p.n - 1), .int .i64 1, .int .i64 p.u, .int .i64 p.r] 42 (0, 0))) := Lib.hid (heap_new_at (w := w12) _ hsL)
                have R8 : Hid (((w12).alloc (.cells #[.int .i64 (p.a + p.n - 1), .int .i64 1, .int .i64 p.u, .int .i64 p.r] 42)).ownsRow w11.heap.size 42 4 v8 k (flatS (fun i => encP (L i)) k)) := Lib.hid ((Keeps.alloc (fun _ => False) _ _).row R8.out (fun _ _ h => h))
                refine hK.out _ _ (HC.out _ HB2.out) (fun hHeld => ?_)
                clear hK K
                try simp only [Act.put, List.setIfInBounds_toArray, List.set_cons_zero, List.set_cons_succ]
                try rw [← hsL]
                refine wpAnyH_ready (rs := [5]) (by kernel_rfl) (by simp) ?_
                refine AllReadyH.cons (by simp only [List.getElem?_toArray, List.getElem?_cons_zero, List.getElem?_cons_succ]; rfl) (fun K hK => ?_) AllReadyH.nil
                rw [if_pos (by rfl)]
                refine wp_append_any (.tmp 245) (.tmp 247) 24 rfl w11.heap.size 42 i1 (.agg #[.int .i64 0, .int .i64 0, .int .i64 0, .int .i64 0]) 4 32 Try.underlying24 hi hz0 hz1 hz2 rfl (by decide) v8 k (flatS (fun i => encP (L i)) k) rfl R8.out (some ⟨sL, 0, none⟩) 1 1 (flatS (fun i => encP ((fun _ => (⟨p.a + p.n - 1, 1, p.u, p.r⟩ : Pl)) i)) 1) (by first | rfl | (rw [hsL]; rfl)) (fun h => by cases h) (flatS_len (wideP _) 1) (fun ad e j u hj => by injection e with e; subst e; rw [Go.WideShapes.add_plain, Nat.zero_add]; exact block_cell KL.out j u (by simpa [flatS, encP] using hj)) (oneP _ 1) (by unfold maxLen; omega) (by omega) HB2.out.size ?_
                intro v9 w19 hr9 hg9
                rw [flatS_cat] at hr9
                have HB3 : Hid (Below w11.heap.size w11 w19) := Lib.hid (HB2.out.grown hg9 HB2.out.size (fun k hk => (row_lt R8.out hk).1))
                obtain ⟨A9, c9, rfl⟩ := row_shapeS hr9
                obtain ⟨g9, rfl⟩ := row_someS hr9 (by have := row_le_capS hr9; omega)
                obtain ⟨A9', c9', ev9, ha9, _⟩ := srow_arr (wideP _) hr9
                injection ev9 with ev9 ev9b ev9c
                rw [← ev9] at ha9
                clear ev9b ev9c
                have HA9 := Lib.hid ha9
                refine hK.out _ _ (HC.out _ HB3.out) (fun hHeld => ?_)
                clear hK K hr9 hg9 ha9 ev9 R8
                try simp only [Act.put, List.setIfInBounds_toArray, List.set_cons_zero, List.set_cons_succ]
                refine wpAnyH_ready (rs := [6]) (by kernel_rfl) (by simp) ?_
                refine AllReadyH.cons (by simp only [List.getElem?_toArray, List.getElem?_cons_zero, List.getElem?_cons_succ]; rfl) (fun K hK => ?_) AllReadyH.nil
                rw [if_pos (by rfl)]
                go_simp
                refine (HMU.out w19 (some ⟨g9, 0, none⟩) c9 (by omega) HA9.out (fun h => by cases h) spot0).mono ?_
                rintro e w20 ⟨rfl, hb20⟩
                have HB4 := Lib.hid (HB3.out.trans (hb20.mono HB3.out.size))
                refine hK.out _ _ (HC.out _ HB4.out) (fun hHeld => ?_)
                clear hK K hb20 HA9
                try simp only [Act.put, List.setIfInBounds_toArray, List.set_cons_zero, List.set_cons_succ]
                refine wpAnyH_take (i := 7) (v := ?_) (by simp only [List.getElem?_toArray, List.getElem?_cons_zero, List.getElem?_cons_succ]; rfl) (by kernel_rfl) (by kernel_rfl) (by kernel_rfl) (by intro _ _ _ h; exact h) (Or.inl ⟨by rfl, ?_⟩) hHeld ?_
                rotate_left
                · (intro w hSw; (try dsimp only at hSw); go_simp; try with_reducible rfl)
                try simp only [Act.put, List.setIfInBounds_toArray, List.set_cons_zero, List.set_cons_succ]
                refine wpAnyH_take (i := 8) (v := ?_) (by simp only [List.getElem?_toArray, List.getElem?_cons_zero, List.getElem?_cons_succ]; rfl) (by kernel_rfl) (by kernel_rfl) (by kernel_rfl) (by intro _ _ _ h; exact h) (Or.inl ⟨by rfl, ?_⟩) hHeld ?_
                rotate_left
                · (intro w hSw; (try dsimp only at hSw); go_simp; try with_reducible rfl)
                try simp only [Act.put, List.setIfInBounds_toArray, List.set_cons_zero, List.set_cons_succ]
                refine wpAnyH_take (i := 9) (v := ?_) (by simp only [List.getElem?_toArray, List.getElem?_cons_zero, List.getElem?_cons_succ]; rfl) (by kernel_rfl) (by kernel_rfl) (by kernel_rfl) (by intro _ _ _ h; exact h) (Or.inl ⟨by rfl, ?_⟩) hHeld ?_
                rotate_left
                · (intro w hSw; (try dsimp only at hSw); go_simp; try with_reducible rfl)
                try simp only [Act.put, List.setIfInBounds_toArray, List.set_cons_zero, List.set_cons_succ]
                refine wpAnyH_take (i := 10) (v := ?_) (by simp only [List.getElem?_toArray, List.getElem?_cons_zero, List.getElem?_cons_succ]; rfl) (by kernel_rfl) (by kernel_rfl) (by kernel_rfl) (by intro _ _ _ h; exact h) (Or.inl ⟨by rfl, ?_⟩) hHeld ?_
                rotate_left
                · (intro w hSw; (try dsimp only at hSw); go_simp; try with_reducible rfl)
                try simp only [Act.put, List.setIfInBounds_toArray, List.set_cons_zero, List.set_cons_succ]
                refine wpAnyH_take (i := 11) (v := ?_) (by simp only [List.getElem?_toArray, List.getElem?_cons_zero, List.getElem?_cons_succ]; rfl) (by kernel_rfl) (by kernel_rfl) (by kernel_rfl) (by intro _ _ _ h; exact h) (Or.inl ⟨by rfl, ?_⟩) hHeld ?_
                rotate_left
                · (intro w hSw; (try dsimp only at hSw); go_simp; try with_reducible rfl)
                try simp only [Act.put, List.setIfInBounds_toArray, List.set_cons_zero, List.set_cons_succ]
                refine wpAnyH_done (by kernel_rfl) ?_ _
                clear hHeld
                clear hHeld
                go_wp2_with fail
                refine (sameI (fun j => cntP g L j k) A2 A10 M c2 c10 _ _ w20 (by omega) (HBA.out _ HB4.out).2.1 (HBA.out _ HB4.out).1).mono ?_
                rintro e _ ⟨rfl, q, rfl⟩
                go_wp2_with fail
                go_ret
                exact ⟨rfl, below_drewN (HBA.out _ HB4.out).2.2 q⟩
              · rw [if_pos (by rfl)]
                go_simp
                obtain ⟨sL, hsL⟩ : ∃ z, z = (w11.drew).heap.size := ⟨_, rfl⟩
                have HB1 : Hid (Below w11.heap.size w11 ((w11.drew).alloc (.cells #[.int .i64 (p.a + p.n - 1), .int .i64 1, .int .i64 p.u, .int .i64 p.r] 42))) := Lib.hid (HB0.out.alloc HB0.out.size _)
                have KL : Hid (((w11.drew).alloc (.cells #[.int .i64 (p.a + p.n - 1), .int .i64 1, .int .i64 p.u, .int .i64 p.r] 42)).heap[sL]? = some (.cells #[.int .i64 (p.a + p.n - 1), .int .i64 1, .int .i64 p.u, .int .i64 p.r] 42 (0, 0))) := Lib.hid (heap_new_at (w := w11.drew) _ hsL)
                refine hK.out _ _ (HC.out _ HB1.out) (fun hHeld => ?_)
                clear hK K
                try simp only [Act.put, List.setIfInBounds_toArray, List.set_cons_zero, List.set_cons_succ]
                try rw [← hsL]
                refine wpAnyH_ready (rs := [2]) (by kernel_rfl) (by simp) ?_
                refine AllReadyH.cons (by simp only [List.getElem?_toArray, List.getElem?_cons_zero, List.getElem?_cons_succ]; rfl) (fun K hK => ?_) AllReadyH.nil
                rw [if_pos (by rfl)]
                go_simp
                refine (copyPl L (some ⟨pb, off, none⟩) k c _ (by omega) (HSA.out _ HB1.out) (fun h => by cases h)).mono ?_
                rintro e w13 ⟨v8, rfl, hr8, hb8⟩
                have HB2 := Lib.hid (HB1.out.trans (hb8.mono HB1.out.size))
                have R8 : Hid (w13.ownsRow w11.heap.size 42 4 v8 k (flatS (fun i => encP (L i)) k)) := Lib.hid (row_more hr8 HB1.out.size)
                have KL := Lib.hid ((hb8.block sL (heap_lt KL.out)).trans KL.out)
                refine hK.out _ _ (HC.out _ HB2.out) (fun hHeld => ?_)
                clear hK K hb8 hr8
                try simp only [Act.put, List.setIfInBounds_toArray, List.set_cons_zero, List.set_cons_succ]
                refine wpAnyH_ready (rs := [5]) (by kernel_rfl) (by simp) ?_
                refine AllReadyH.cons (by simp only [List.getElem?_toArray, List.getElem?_cons_zero, List.getElem?_cons_succ]; rfl) (fun K hK => ?_) AllReadyH.nil
                rw [if_pos (by rfl)]
                refine wp_append_any (.tmp 245) (.tmp 247) 24 rfl w11.heap.size 42 i1 (.agg #[.int .i64 0, .int .i64 0, .int .i64 0, .int .i64 0]) 4 32 Try.underlying24 hi hz0 hz1 hz2 rfl (by decide) v8 k (flatS (fun i => encP (L i)) k) rfl R8.out (some ⟨sL, 0, none⟩) 1 1 (flatS (fun i => encP ((fun _ => (⟨p.a + p.n - 1, 1, p.u, p.r⟩ : Pl)) i)) 1) (by first | rfl | (rw [hsL]; rfl)) (fun h => by cases h) (flatS_len (wideP _) 1) (fun ad e j u hj => by injection e with e; subst e; rw [Go.WideShapes.add_plain, Nat.zero_add]; exact block_cell KL.out j u (by simpa [flatS, encP] using hj)) (oneP _ 1) (by unfold maxLen; omega) (by omega) HB2.out.size ?_
                intro v9 w19 hr9 hg9
                rw [flatS_cat] at hr9
                have HB3 : Hid (Below w11.heap.size w11 w19) := Lib.hid (HB2.out.grown hg9 HB2.out.size (fun k hk => (row_lt R8.out hk).1))
                obtain ⟨A9, c9, rfl⟩ := row_shapeS hr9
                obtain ⟨g9, rfl⟩ := row_someS hr9 (by have := row_le_capS hr9; omega)
                obtain ⟨A9', c9', ev9, ha9, _⟩ := srow_arr (wideP _) hr9
                injection ev9 with ev9 ev9b ev9c
                rw [← ev9] at ha9
                clear ev9b ev9c
                have HA9 := Lib.hid ha9
                refine hK.out _ _ (HC.out _ HB3.out) (fun hHeld => ?_)
                clear hK K hr9 hg9 ha9 ev9 R8
                try simp only [Act.put, List.setIfInBounds_toArray, List.set_cons_zero, List.set_cons_succ]
                refine wpAnyH_ready (rs := [6]) (by kernel_rfl) (by simp) ?_
                refine AllReadyH.cons (by simp only [List.getElem?_toArray, List.getElem?_cons_zero, List.getElem?_cons_succ]; rfl) (fun K hK => ?_) AllReadyH.nil
                rw [if_pos (by rfl)]
                go_simp
                refine (HMU.out w19 (some ⟨g9, 0, none⟩) c9 (by omega) HA9.out (fun h => by cases h) spot0).mono ?_
                rintro e w20 ⟨rfl, hb20⟩
                have HB4 := Lib.hid (HB3.out.trans (hb20.mono HB3.out.size))
                refine hK.out _ _ (HC.out _ HB4.out) (fun hHeld => ?_)
                clear hK K hb20 HA9
                try simp only [Act.put, List.setIfInBounds_toArray, List.set_cons_zero, List.set_cons_succ]
                refine wpAnyH_take (i := 7) (v := ?_) (by simp only [List.getElem?_toArray, List.getElem?_cons_zero, List.getElem?_cons_succ]; rfl) (by kernel_rfl) (by kernel_rfl) (by kernel_rfl) (by intro _ _ _ h; exact h) (Or.inl ⟨by rfl, ?_⟩) hHeld ?_
                rotate_left
                · (intro w hSw; (try dsimp only at hSw); go_simp; try with_reducible rfl)
                try simp only [Act.put, List.setIfInBounds_toArray, List.set_cons_zero, List.set_cons_succ]
                refine wpAnyH_take (i := 8) (v := ?_) (by simp only [List.getElem?_toArray, List.getElem?_cons_zero, List.getElem?_cons_succ]; rfl) (by kernel_rfl) (by kernel_rfl) (by kernel_rfl) (by intro _ _ _ h; exact h) (Or.inl ⟨by rfl, ?_⟩) hHeld ?_
                rotate_left
                · (intro w hSw; (try dsimp only at hSw); go_simp; try with_reducible rfl)
                try simp only [Act.put, List.setIfInBounds_toArray, List.set_cons_zero, List.set_cons_succ]
                refine wpAnyH_take (i := 9) (v := ?_) (by simp only [List.getElem?_toArray, List.getElem?_cons_zero, List.getElem?_cons_succ]; rfl) (by kernel_rfl) (by kernel_rfl) (by kernel_rfl) (by intro _ _ _ h; exact h) (Or.inl ⟨by rfl, ?_⟩) hHeld ?_
                rotate_left
                · (intro w hSw; (try dsimp only at hSw); go_simp; try with_reducible rfl)
                try simp only [Act.put, List.setIfInBounds_toArray, List.set_cons_zero, List.set_cons_succ]
                refine wpAnyH_take (i := 10) (v := ?_) (by simp only [List.getElem?_toArray, List.getElem?_cons_zero, List.getElem?_cons_succ]; rfl) (by kernel_rfl) (by kernel_rfl) (by kernel_rfl) (by intro _ _ _ h; exact h) (Or.inl ⟨by rfl, ?_⟩) hHeld ?_
                rotate_left
                · (intro w hSw; (try dsimp only at hSw); go_simp; try with_reducible rfl)
                try simp only [Act.put, List.setIfInBounds_toArray, List.set_cons_zero, List.set_cons_succ]
                refine wpAnyH_take (i := 11) (v := ?_) (by simp only [List.getElem?_toArray, List.getElem?_cons_zero, List.getElem?_cons_succ]; rfl) (by kernel_rfl) (by kernel_rfl) (by kernel_rfl) (by intro _ _ _ h; exact h) (Or.inl ⟨by rfl, ?_⟩) hHeld ?_
                rotate_left
                · (intro w hSw; (try dsimp only at hSw); go_simp; try with_reducible rfl)
                try simp only [Act.put, List.setIfInBounds_toArray, List.set_cons_zero, List.set_cons_succ]
                refine wpAnyH_done (by kernel_rfl) ?_ _
                clear hHeld
                clear hHeld
                go_wp2_with fail
                refine (sameI (fun j => cntP g L j k) A2 A10 M c2 c10 _ _ w20 (by omega) (HBA.out _ HB4.out).2.1 (HBA.out _ HB4.out).1).mono ?_
                rintro e _ ⟨rfl, q, rfl⟩
                go_wp2_with fail
                go_ret
                exact ⟨rfl, below_drewN (HBA.out _ HB4.out).2.2 q⟩
end Go.Proofs.Ythhmhcfahlnmpaa
