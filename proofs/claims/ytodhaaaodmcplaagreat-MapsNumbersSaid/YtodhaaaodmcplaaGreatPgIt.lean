/- The kit's flatItems: lists that lie apart are told to lie apart. Printed by mkflat.py. -/
import Derived.Test.YtodhaaaodmcplaaGreatBkIt
import Derived.Test.YtodhaaaodmcplaaGreatFs
import Derived.Test.YtodhaaaodmcplaaGreatCn
import Derived.Laws.MakeOwn
import Derived.ArgAppend
set_option linter.all false
namespace Go.Proofs.YtodhaaaodmcplaaGreat
namespace FlIt
open Go.RowKit
abbrev mkF (k : Nat) : Nat → List Value := fun i => cellsIt (mkIt k i)
theorem wideM (k : Nat) : Wide 73 (mkF k) := fun _ => lenIt _
theorem marksP : Marks 73 (fun k => mkF k) := ⟨fun _ _ => lenIt _, fun _ _ u hu => oneIt _ u hu⟩
theorem infoSIt : (Tryz.prog.info? 40).map (fun i => (i.zero, i.size, i.bytes)) = some (some (.slice none 0 0), 1, 24) := by kernel_rfl
theorem HSZ9 : (Tryz.prog.info? 75).map (·.size) = some 73 := by kernel_rfl
theorem ls_cellP {S : Nat → Prop} {w0 w : World} {base sl K cl : Nat} {v : Nat → Value} (h : w0.ownsRow base 40 1 (.slice (some ⟨sl, 0, none⟩) K cl) K ((List.range K).map v)) (hk : Keeps S w0 w) (hS : ¬ S sl) {k : Nat} (hlt : k < K) : w.cell? ⟨sl, k, none⟩ = some (v k) := by
  have h1 := h.cellAt k (by omega)
  rw [List.getElem?_map, List.getElem?_range hlt] at h1
  exact hk.cell h1 hS
theorem row_cellP {w : World} {base K cl sl : Nat} {e : TypeId} {v : Nat → Value} (h : w.ownsRow base e 1 (.slice (some ⟨sl, 0, none⟩) K cl) K ((List.range K).map v)) {k : Nat} (hlt : k < K) : w.cell? ⟨sl, k, none⟩ = some (v k) := by
  have h1 := h.cellAt k (by omega)
  rwa [List.getElem?_map, List.getElem?_range hlt] at h1
theorem row_news {w : World} {base g n c s : Nat} {e : TypeId} {F : Nat → List Value} (hFw : Wide s F) (ho : w.ownsRow base e s (.slice (some ⟨g, 0, none⟩) n c) n (flatS F n)) (j : Nat) (u : Value) (hu : (flatS F n)[j]? = some u) : w.cell? ((⟨g, 0, none⟩ : Addr).add j) = some u := by
  obtain ⟨A', c', e1, ha, -⟩ := srow_arr hFw ho
  injection e1 with e2
  exact ha.cellsAt hFw _ e2.symm j u hu
def zeroP (_ : Nat) : List Value := zIt
theorem made_flat (zl : List Value) (k : Nat) (hs : 0 < zl.length) : (madeCells zl.toArray (k * zl.length)).toList = flatS (fun _ => zl) k := by
  apply List.ext_getElem?
  intro i
  have hw : Wide zl.length fun _ => zl := fun _ => rfl
  by_cases hi : i < k * zl.length
  · have hq := Nat.mod_lt i hs
    have hj : i / zl.length < k := Nat.div_lt_of_lt_mul (by rw [Nat.mul_comm]; exact hi)
    have h := flatS_at hw hq hj
    have e : i / zl.length * zl.length + i % zl.length = i := by rw [Nat.mul_comm]; exact Nat.div_add_mod i _
    rw [e] at h
    rw [h]
    simp [madeCells, hi, hq]
  · rw [List.getElem?_eq_none (by simp [madeCells]; omega), List.getElem?_eq_none (by rw [flatS_len hw]; omega)]
theorem madeP : (madeCells (Value.agg zIt.toArray).cells (64 * 73)).toList = flatS zeroP 64 := made_flat zIt 64 (by decide)
theorem zeroP_wide : Wide 73 zeroP := fun _ => rfl
theorem zeroP_one : ∀ i, ∀ u ∈ zeroP i, u.oneCell' = true := fun _ => by
  show ∀ u ∈ zIt, _
  decide
theorem rangeLow {w w' : World} {b o B : Nat} {cs : List Value} (h : w.rangeAt b o cs) (hb : Below B w w') (hlt : b < B) : w'.rangeAt b o cs := fun j v hj => (World.cell?_of_block (hb.block b hlt)).trans (h j v hj)
theorem sizeFIt (x : ElIt) : (Tryz.prog.info? 75).map (·.size) = some (cellsIt x).length := by
  rw [lenIt]; exact HSZ9
theorem own_lenS (A : Option Addr) (n n' c c' : Nat) : (Value.slice A n c).ownBlock = (Value.slice A n' c').ownBlock := by cases A <;> rfl
set_option maxRecDepth 100000 in
set_option maxHeartbeats 16000000 in
theorem flatP (w : World) (base sl cl K : Nat) (A : Nat → Option Addr) (n c : Nat → Nat) (hK : K ≤ 1000) (hn : ∀ j, j < K → n j ≤ 900000000)
    (hls : w.ownsRow base 40 1 (.slice (some ⟨sl, 0, none⟩) K cl) K ((List.range K).map fun j => .slice (A j) (n j) (c j)))
    (hrows : ∀ j, j < K → RowAtS 75 73 (fun k => mkF k) w base (.slice (A j) (n j) (c j)) (n j) j 0) (hd : DistS K fun j => .slice (A j) (n j) (c j)) (hbase : base ≤ w.heap.size) :
    Calls Tryz.prog 56 #[.slice (some ⟨sl, 0, none⟩) K cl] w fun e w' => e = .returned (.bool true) ∧ Keeps (FootS K fun j => .slice (A j) (n j) (c j)) w w' := by
  have HLS := Lib.hid hls
  have HD := Lib.hid hd
  have HN := Lib.hid hn
  have HVL : Hid (∀ j, j < K → ∀ b, (Value.slice (A j) (n j) (c j)).ownBlock = some b → b < w.heap.size) := Lib.hid fun j hj b hb => by
    obtain ⟨f, _, _, _, ho⟩ := hrows j hj
    exact (row_lt ho hb).2
  have HF : Hid (¬ FootS K (fun j => .slice (A j) (n j) (c j)) sl) := Lib.hid (by
    rintro ⟨j, hj, hb⟩
    obtain ⟨f, _, _, _, ho⟩ := hrows j hj
    exact rows_neS ho hls (by decide) sl hb rfl)
  have HM : Hid (MarkS 75 73 (fun k => mkF k) w w base K (fun j => .slice (A j) (n j) (c j)) n 0 0) := Lib.hid ⟨Keeps.refl _ _, fun j hj => by
    have : progS n 0 0 j = 0 := by simp [progS]
    rw [this]; exact hrows j hj⟩
  have HONE : Hid (∀ k i, ∀ u ∈ mkF k i, u.oneCell' = true) := Lib.hid fun k i => marksP.one k i
  clear hls hd hn hrows
  obtain ⟨iB, hB0, hB1, hB2, hB3⟩ := infoParts infoIt
  obtain ⟨iS, hS0, hS1, hS2, hS3⟩ := infoParts infoSIt
  go_enter Tryz.func56, Tryz.ntmps56
  go_wp2_with fail
  go_loopw [3] (fun i wr => ∃ k : Nat, k ≤ K ∧ i = .int .i64 k ∧ MarkS 75 73 (fun k => mkF k) w wr base K (fun j => .slice (A j) (n j) (c j)) n k 0) (fun i _ => K - (intOf i).toNat)
  case atStart => exact ⟨0, Nat.zero_le _, rfl, HM.out⟩
  case round =>
    clear HM
    obtain ⟨k, hk, rfl, hm⟩ := hrel
    have HM := Lib.hid hm
    clear hm
    by_cases hlt : k < K
    · obtain ⟨a, ha⟩ : ∃ a, a = A k := ⟨_, rfl⟩
      obtain ⟨m, hm⟩ : ∃ a, a = n k := ⟨_, rfl⟩
      obtain ⟨d, hd⟩ : ∃ a, a = c k := ⟨_, rfl⟩
      have hm9 := HN.out k hlt
      rw [← hm] at hm9
      have HE := Lib.hid (And.intro ha (And.intro hm hd))
      clear ha hm hd
      have i1 : (0 : Int) ≤ k := by omega
      have i2 : (k : Int) < K := by omega
      have c0 := ls_cellP HLS.out HM.out.kept HF.out hlt
      rw [← HE.out.1, ← HE.out.2.1, ← HE.out.2.2] at c0
      go_wp2_with fail
      go_loopw [4] (fun i wi => ∃ q : Nat, q ≤ m ∧ i = .int .i64 q ∧ MarkS 75 73 (fun k => mkF k) w wi base K (fun j => .slice (A j) (n j) (c j)) n k q) (fun i _ => m - (intOf i).toNat)
      case atStart => exact ⟨0, Nat.zero_le _, rfl, HM.out⟩
      case round =>
        clear c0 HM
        obtain ⟨q, hq, rfl, hm⟩ := hrel
        have HM := Lib.hid hm
        have c0 := ls_cellP HLS.out hm.kept HF.out hlt
        rw [← HE.out.1, ← HE.out.2.1, ← HE.out.2.2] at c0
        by_cases hql : q < m
        · obtain ⟨f, _, _, _, ho⟩ := hm.rows k hlt
          rw [← HE.out.1, ← HE.out.2.1, ← HE.out.2.2] at ho
          obtain ⟨g, rfl⟩ := row_someS ho (by have := row_le_capS ho; omega)
          have HG : Hid (∀ wi, MarkS 75 73 (fun k => mkF k) w wi base K (fun j => .slice (A j) (n j) (c j)) n k q → ∃ cur : List Value, wi.heap[g]? = some (.cells cur.toArray 75 (0, 0)) ∧ m * 73 ≤ cur.length) := Lib.hid fun wi hmi => by
            obtain ⟨f, _, _, _, ho⟩ := hmi.rows k hlt
            rw [← HE.out.1, ← HE.out.2.1, ← HE.out.2.2] at ho
            exact row_blk ho
          have HSG : Hid (g ≠ sl) := Lib.hid fun e => HF.out ⟨k, hlt, by show (Value.slice (A k) (n k) (c k)).ownBlock = some sl; rw [← HE.out.1, e]; rfl⟩
          have j1 : (0 : Int) ≤ q := by omega
          have j2 : (q : Int) < m := by omega
          clear hm ho
          go_wp2_with fail
          have HM0 := Lib.hid (HM.out.go (below_drewN (Below.refl _ wr) 1))
          refine wp_region_held_drew (S := fun w' => w'.cell? ⟨sl, k, none⟩ = some (.slice (some ⟨g, 0, none⟩) m d)) (by kernel_rfl) c0 (fun hHeld => ?_)
          clear c0
          refine wpAnyH_take (i := 0) (v := ?_) (by simp only [List.getElem?_toArray, List.getElem?_cons_zero]; rfl) (by kernel_rfl) (by kernel_rfl) (by kernel_rfl) (by intro _ _ _ h; exact h) (Or.inl ⟨by rfl, ?_⟩) hHeld ?_
          rotate_left
          · (intro w hSw; (try dsimp only at hSw); go_simp; try with_reducible rfl)
          try simp only [Act.put, List.setIfInBounds_toArray, List.set_cons_zero, List.set_cons_succ]
          refine wpAnyH_take (i := 1) (v := ?_) (by simp only [List.getElem?_toArray, List.getElem?_cons_zero, List.getElem?_cons_succ]; rfl) (by kernel_rfl) (by kernel_rfl) (by kernel_rfl) (by intro _ _ _ h; exact h) (Or.inl ⟨by rfl, ?_⟩) hHeld ?_
          rotate_left
          · (intro w hSw; (try dsimp only at hSw); go_simp; try with_reducible rfl)
          try simp only [Act.put, List.setIfInBounds_toArray, List.set_cons_zero, List.set_cons_succ]
          refine wpAnyH_take (i := 2) (v := ?_) (by simp only [List.getElem?_toArray, List.getElem?_cons_zero, List.getElem?_cons_succ]; rfl) (by kernel_rfl) (by kernel_rfl) (by kernel_rfl) (by intro _ _ _ h; exact h) (Or.inl ⟨by rfl, ?_⟩) hHeld ?_
          rotate_left
          · (intro w hSw; (try dsimp only at hSw); go_simp; try with_reducible rfl)
          try simp only [Act.put, List.setIfInBounds_toArray, List.set_cons_zero, List.set_cons_succ]
          refine wpAnyH_take (i := 3) (v := ?_) (by simp only [List.getElem?_toArray, List.getElem?_cons_zero, List.getElem?_cons_succ]; rfl) (by kernel_rfl) (by kernel_rfl) (by kernel_rfl) (by intro _ _ _ h; exact h) (Or.inl ⟨by rfl, ?_⟩) hHeld ?_
          rotate_left
          · (intro w hSw; (try dsimp only at hSw); go_simp; try with_reducible rfl)
          try simp only [Act.put, List.setIfInBounds_toArray, List.set_cons_zero, List.set_cons_succ]
          refine wpAnyH_take (i := 4) (v := ?_) (by simp only [List.getElem?_toArray, List.getElem?_cons_zero, List.getElem?_cons_succ]; rfl) (by kernel_rfl) (by kernel_rfl) (by kernel_rfl) (by intro _ _ _ h; exact h) (Or.inl ⟨by rfl, ?_⟩) hHeld ?_
          rotate_left
          · (intro w hSw; (try dsimp only at hSw); go_simp; try with_reducible rfl)
          try simp only [Act.put, List.setIfInBounds_toArray, List.set_cons_zero, List.set_cons_succ]
          refine wpAnyH_take (i := 5) (v := ?_) (by simp only [List.getElem?_toArray, List.getElem?_cons_zero, List.getElem?_cons_succ]; rfl) (by kernel_rfl) (by kernel_rfl) (by kernel_rfl) (by intro _ _ _ h; exact h) (Or.inl ⟨by rfl, ?_⟩) hHeld ?_
          rotate_left
          · (intro w hSw; (try dsimp only at hSw); go_simp; try with_reducible rfl)
          try simp only [Act.put, List.setIfInBounds_toArray, List.set_cons_zero, List.set_cons_succ]
          refine wpAnyH_take (i := 6) (v := ?_) (by simp only [List.getElem?_toArray, List.getElem?_cons_zero, List.getElem?_cons_succ]; rfl) (by kernel_rfl) (by kernel_rfl) (by kernel_rfl) (by intro _ _ _ h; exact h) (Or.inl ⟨by rfl, ?_⟩) hHeld ?_
          rotate_left
          · (intro w hSw; (try dsimp only at hSw); go_simp; try with_reducible rfl)
          try simp only [Act.put, List.setIfInBounds_toArray, List.set_cons_zero, List.set_cons_succ]
          refine wpAnyH_ready (rs := [7]) (by kernel_rfl) (by simp) ?_
          refine AllReadyH.cons (by simp only [List.getElem?_toArray, List.getElem?_cons_zero, List.getElem?_cons_succ]; rfl) (fun K hK => ?_) AllReadyH.nil
          rw [if_pos (by rfl)]
          go_simp
          refine (markIt k q _ (by omega) (by omega)).mono ?_
          rintro e w2 ⟨rfl, hbm⟩
          have HM2 := Lib.hid (HM0.out.go hbm)
          clear hbm
          refine hK.out _ _ (by have h := ls_cellP HLS.out HM2.out.kept HF.out hlt; rwa [← HE.out.1, ← HE.out.2.1, ← HE.out.2.2] at h) (fun hHeld => ?_)
          clear hK
          try simp only [Act.put, List.setIfInBounds_toArray, List.set_cons_zero, List.set_cons_succ]
          refine wpAnyH_take (i := 8) (v := ?_) (by simp only [List.getElem?_toArray, List.getElem?_cons_zero, List.getElem?_cons_succ]; rfl) (by kernel_rfl) (by kernel_rfl) (by kernel_rfl) (by intro _ _ _ h; exact h) (Or.inl ⟨by rfl, ?_⟩) hHeld ?_
          rotate_left
          · (intro w hSw; (try dsimp only at hSw); go_simp; try with_reducible rfl)
          try simp only [Act.put, List.setIfInBounds_toArray, List.set_cons_zero, List.set_cons_succ]
          obtain ⟨cur, hcur, hcl⟩ := HG.out w2 HM2.out
          have HCUR := Lib.hid hcur
          refine wpAnyH_ready (rs := [9]) (by kernel_rfl) (by simp) ?_
          refine AllReadyH.cons (by simp only [List.getElem?_toArray, List.getElem?_cons_zero, List.getElem?_cons_succ]; rfl) (fun K hK => ?_) AllReadyH.nil
          rw [if_pos (by rfl)]
          refine wp_store_segK 75 (.tmp 39) (.tmp 38) rfl g (q * 73) rfl (mkF k q) rfl cur 75 HCUR.out (by rw [show (mkF k q).length = 73 from lenIt _]; exact HSZ9) (by rw [show (mkF k q).length = 73 from lenIt _]; omega) (HONE.out k q) ?_
          intro w3 hw3 hk3 hs3
          have HM3 := Lib.hid (HM2.out.store marksP HD.out hlt (g := g) (m := m) (c := d) (i := q) (by rw [← HE.out.1, ← HE.out.2.1, ← HE.out.2.2]) HE.out.2.1 hql HCUR.out (by rw [List.toList_toArray]; exact hw3) hk3)
          clear hw3 hk3 hs3
          refine hK.out _ _ (by have h := ls_cellP HLS.out HM3.out.kept HF.out hlt; rwa [← HE.out.1, ← HE.out.2.1, ← HE.out.2.2] at h) (fun hHeld => ?_)
          clear hK
          try simp only [Act.put, List.setIfInBounds_toArray, List.set_cons_zero, List.set_cons_succ]
          refine wpAnyH_done (by kernel_rfl) ?_ _
          clear hHeld
          go_wp2_with fail
          go_roundw
          case rel => exact ⟨q + 1, by omega, by go_num, HM3.out⟩
          case measure => simp [intOf]; omega
        · obtain rfl : q = m := by omega
          go_wp2_with fail
          go_roundw
          case rel =>
            have h := HM.out
            have e : q = n k := HE.out.2.1
            rw [e] at h
            exact ⟨k + 1, by omega, by go_num, h.next⟩
          case measure => simp [intOf]; omega
    · obtain rfl : k = K := by omega
      have HR : Hid (∀ j, j < k → wr.ownsRow base 75 73 (.slice (A j) (n j) (c j)) (n j) (flatS (mkF j) (n j))) := Lib.hid fun j hj => (HM.out.rows j hj).full (by rw [progS_end n hj]; exact Nat.le_refl _)
      have hws := HM.out.kept.size
      obtain ⟨w1, hw1⟩ : ∃ w1, w1 = wr := ⟨_, rfl⟩
      subst hw1
      go_wp2_with (at_make; refine wpList_make_full _ rfl _ _ 45 rfl base 40 iS (.slice none 0 0) 1 Tryz.underlying45 hS0 hS1 hS2 _ _ _ _ k rfl rfl (by rfl) (by rfl) (by rw [hS3]; omega) (by unfold maxLen; omega) (Nat.le_trans hbase hws) ?_; intro w2 hown hg)
      have e0 : (madeCells (Value.slice none 0 0).cells (k * 1)).toList = (List.range k).map fun _ => Value.slice none 0 0 := by
        apply List.ext_getElem (by simp [madeCells])
        intro j h1 h2
        simp [madeCells, Value.cells, Nat.mod_one]
      rw [e0] at hown
      have hgk : Keeps (fun _ => False) w1 w2 := Keeps.grown hg fun _ e => by cases e
      have HFL : Hid (FlatsS 75 40 73 (fun k => mkF k) w w2 base k (fun j => .slice (A j) (n j) (c j)) n w1.heap.size (fun j => n j + 64) 0 (fun _ => .slice none 0 0)) := Lib.hid ⟨HM.out.kept.trans hgk fun _ _ h => h.elim, fun j hj => hgk.row (HR.out j hj) fun _ _ h => h, hown, fun j hj => absurd hj (by omega), hws, fun j hj b hb => Nat.lt_of_lt_of_le (HVL.out j hj b hb) hws⟩
      clear hown hg hgk e0 HM HR HVL hS0 hS1 hS2 hS3
      obtain ⟨H, hH⟩ : ∃ H, H = w1.heap.size := ⟨_, rfl⟩
      rw [← hH] at HFL ⊢
      clear hH hws
      obtain ⟨K, hKk⟩ : ∃ K, K = k := ⟨_, rfl⟩
      subst hKk
      go_wp2_with fail
      go_loopw [6] (fun i wr => ∃ (k : Nat) (G : Nat → Value), k ≤ K ∧ i = .int .i64 k ∧ FlatsS 75 40 73 (fun k => mkF k) w wr base K (fun j => .slice (A j) (n j) (c j)) n H (fun j => n j + 64) k G) (fun i _ => K - (intOf i).toNat)
      case atStart => exact ⟨0, _, Nat.zero_le _, rfl, HFL.out⟩
      case round =>
        clear HFL
        obtain ⟨k, G, hk, rfl, hfl⟩ := hrel
        have HFL := Lib.hid hfl
        clear hfl
        by_cases hlt : k < K
        · obtain ⟨a, ha⟩ : ∃ a, a = A k := ⟨_, rfl⟩
          obtain ⟨m, hm⟩ : ∃ a, a = n k := ⟨_, rfl⟩
          obtain ⟨d, hd⟩ : ∃ a, a = c k := ⟨_, rfl⟩
          have hm9 := HN.out k hlt
          rw [← hm] at hm9
          have HE := Lib.hid (And.intro ha (And.intro hm hd))
          clear ha hm hd
          have i1 : (0 : Int) ≤ k := by omega
          have i2 : (k : Int) < K := by omega
          have HNE : Hid (¬ (Value.slice a m d).ownBlock = some sl) := Lib.hid fun e => HF.out ⟨k, hlt, by show (Value.slice (A k) (n k) (c k)).ownBlock = some sl; rw [← HE.out.1, ← HE.out.2.1, ← HE.out.2.2]; exact e⟩
          have c0 := ls_cellP HLS.out HFL.out.kept HF.out hlt
          rw [← HE.out.1, ← HE.out.2.1, ← HE.out.2.2] at c0
          have C0 := Lib.hid c0
          have HG0 : Hid (GrowS 75 73 (fun k => mkF k) wr wr base a m d k 0 (.slice a m d)) := Lib.hid (by
            have h := HFL.out.rows k hlt
            rw [← HE.out.1, ← HE.out.2.1, ← HE.out.2.2] at h
            exact ⟨Keeps.refl _ _, h, h, .inl rfl⟩)
          have hbz : base ≤ wr.heap.size := Nat.le_trans hbase HFL.out.kept.size
          obtain ⟨wo, hwo⟩ : ∃ wo, wo = wr := ⟨_, rfl⟩
          subst hwo
          go_wp2_with fail
          go_loopw [7, 8] (fun gv i wi => ∃ q : Nat, q ≤ 64 ∧ i = .int .i64 q ∧ GrowS 75 73 (fun k => mkF k) wo wi base a m d k q gv) (fun _ i _ => 64 - (intOf i).toNat)
          case atStart => exact ⟨0, Nat.zero_le _, rfl, HG0.out⟩
          case round =>
            clear HG0 c0
            obtain ⟨q, hq, rfl, hgr⟩ := hrel
            have HG := Lib.hid hgr
            have c0 := hgr.kept.cell C0.out HNE.out
            clear hgr
            by_cases hql : q < 64
            · obtain ⟨z, hz⟩ : ∃ z : Nat, (m : Int) + q = z := ⟨m + q, by omega⟩
              have HZ : Hid (z = m + q) := Lib.hid (by omega)
              have hz9 : z ≤ 900000064 := by omega
              rcases HG.out.place with hpl | hpl
              · subst hpl
                by_cases hfit : m + q + 1 ≤ d
                · obtain ⟨g, rfl⟩ : ∃ g, a = some ⟨g, 0, none⟩ := row_someS HG.out.new (by omega)
                  go_wp2_with fail
                  refine (markIt k z _ (by omega) (by omega)).mono ?_
                  rintro e w2 ⟨rfl, hbm⟩
                  rw [HZ.out]
                  have HG2 := Lib.hid (HG.out.go hbm)
                  have c1 := HG2.out.kept.cell C0.out HNE.out
                  have hz2 := HG2.out.kept.size
                  obtain ⟨cs, hcs⟩ : ∃ cs, cs = mkF k (m + q) := ⟨_, rfl⟩
                  have HCS := Lib.hid hcs
                  have HLC : Hid (cs.length = 73) := Lib.hid (by rw [hcs]; exact lenIt _)
                  have HO : Hid (∀ u ∈ cs, u.oneCell' = true) := Lib.hid (by rw [hcs]; exact oneIt _)
                  rw [show cellsIt (mkIt k (m + q)) = cs from hcs.symm]
                  clear hbm c0 hcs
                  go_wp2_with (first | (refine wpList_slice1 rfl 40 75 (.tmp 66) rfl cs rfl iB (.agg zIt.toArray) Tryz.underlying40 hB0 hB1 (by rw [hB2, HLC.out]) (by rw [HLC.out]; omega) (by rw [HLC.out]; omega) ?_) | (at_builtin; refine wpList_append_fits _ rfl (.tmp 57) (.tmp 67) 40 rfl base 75 iB 73 Tryz.underlying40 hB0 hB2 g (m + q) d _ rfl (HG2.out.new.alloc _) ⟨w2.heap.size, 0, none⟩ 1 1 cs rfl (by rw [HLC.out]) (cells_new _ _ _) HO.out (by omega) ?_; intro w3 hown3 hg3; have e9 := HCS.out; subst e9; have HG3 := Lib.hid (HG2.out.fits marksP hown3 hg3); clear hown3 hg3))
                  go_roundw
                  case rel => exact ⟨q + 1, by omega, by go_num, HG3.out⟩
                  case measure => simp [intOf]; omega
                · have _ := hfit
                  go_wp2_with fail
                  refine (markIt k z _ (by omega) (by omega)).mono ?_
                  rintro e w2 ⟨rfl, hbm⟩
                  rw [HZ.out]
                  have HG2 := Lib.hid (HG.out.go hbm)
                  have c1 := HG2.out.kept.cell C0.out HNE.out
                  have hz2 := HG2.out.kept.size
                  obtain ⟨cs, hcs⟩ : ∃ cs, cs = mkF k (m + q) := ⟨_, rfl⟩
                  have HCS := Lib.hid hcs
                  have HLC : Hid (cs.length = 73) := Lib.hid (by rw [hcs]; exact lenIt _)
                  have HO : Hid (∀ u ∈ cs, u.oneCell' = true) := Lib.hid (by rw [hcs]; exact oneIt _)
                  rw [show cellsIt (mkIt k (m + q)) = cs from hcs.symm]
                  clear hbm c0 hcs
                  have HOC : Hid (∀ (o : Obj) b, a = some b → ∀ j u, (flatS (mkF k) (m + q))[j]? = some u → (w2.alloc o).cell? (b.add j) = some u) := Lib.hid fun o b hb j u hu => by
                    obtain ⟨A', c', e, ha, -⟩ := srow_arr (wideM k) HG2.out.new
                    injection e with e1
                    exact ((ha.below ((Below.refl _ w2).alloc (Nat.le_refl _) o) (Nat.le_refl _)).cellsAt (wideM k) b (e1 ▸ hb) j u hu)
                  have HFLN := Lib.hid (flatS_len (wideM k) (m + q))
                  go_wp2_with (first | (refine wpList_slice1 rfl 40 75 (.tmp 66) rfl cs rfl iB (.agg zIt.toArray) Tryz.underlying40 hB0 hB1 (by rw [hB2, HLC.out]) (by rw [HLC.out]; omega) (by rw [HLC.out]; omega) ?_) | (at_builtin; refine wpList_append_grows _ rfl (.tmp 57) (.tmp 67) 40 rfl 75 iB (.agg zIt.toArray) 73 136 Tryz.underlying40 hB0 hB1 hB2 hB3 rfl (by omega) a (m + q) d (flatS (mkF k) (m + q)) rfl (row_nilS HG2.out.new) HFLN.out (HOC.out _) ⟨w2.heap.size, 0, none⟩ 1 1 cs rfl (by rw [HLC.out]) (cells_new _ _ _) HO.out (by omega) (by unfold maxLen; omega) (by omega) ?_; intro gv2 w3 hown3 hg3; have e9 := HCS.out; subst e9; have HG3 := Lib.hid (HG2.out.moves (Nat.le_trans hbz hz2) hz2 hown3 hg3); clear hown3 hg3))
                  go_roundw
                  case rel => exact ⟨q + 1, by omega, by go_num, HG3.out⟩
                  case measure => simp [intOf]; omega
              · have HPL := Lib.hid hpl
                clear hpl
                have HAW : Hid (∀ b, (Value.slice a m d).ownBlock = some b → b < wo.heap.size) := Lib.hid fun b hb => by
                  have h := HFL.out.rows k hlt
                  rw [← HE.out.1, ← HE.out.2.1, ← HE.out.2.2] at h
                  exact (row_lt h hb).2
                go_wp2_with fail
                refine (markIt k z _ (by omega) (by omega)).mono ?_
                rintro e w2 ⟨rfl, hbm⟩
                rw [HZ.out]
                have HG2 := Lib.hid (HG.out.go hbm)
                have c1 := HG2.out.kept.cell C0.out HNE.out
                have hz2 := HG2.out.kept.size
                obtain ⟨cs, hcs⟩ : ∃ cs, cs = mkF k (m + q) := ⟨_, rfl⟩
                have HCS := Lib.hid hcs
                have HLC : Hid (cs.length = 73) := Lib.hid (by rw [hcs]; exact lenIt _)
                have HO : Hid (∀ u ∈ cs, u.oneCell' = true) := Lib.hid (by rw [hcs]; exact oneIt _)
                rw [show cellsIt (mkIt k (m + q)) = cs from hcs.symm]
                clear hbm c0 hcs
                go_wp2_with (first | (refine wpList_slice1 rfl 40 75 (.tmp 66) rfl cs rfl iB (.agg zIt.toArray) Tryz.underlying40 hB0 hB1 (by rw [hB2, HLC.out]) (by rw [HLC.out]; omega) (by rw [HLC.out]; omega) ?_) | (at_builtin; refine wpList_append_lies _ rfl (.tmp 57) (.tmp 67) 40 rfl base 75 iB (.agg zIt.toArray) 73 136 Tryz.underlying40 hB0 hB1 hB2 hB3 rfl (by omega) _ (m + q) _ rfl (HG2.out.new.alloc _) ⟨w2.heap.size, 0, none⟩ 1 1 cs rfl (by rw [HLC.out]) (cells_new _ _ _) HO.out (by omega) (by unfold maxLen; omega) (by omega) (by simp; omega) _ rfl ?_; intro g cap w3 hown3 hg3 hat _; have e9 := HCS.out; subst e9; have HG3 := Lib.hid (HG2.out.lies hz2 HPL.out HAW.out hown3 hg3 hat); clear hown3 hg3 hat))
                go_roundw
                case rel => exact ⟨q + 1, by omega, by go_num, HG3.out⟩
                case measure => simp [intOf]; omega
            · obtain rfl : q = 64 := by omega
              obtain ⟨A2, cap2, hgv⟩ := row_shapeS HG.out.new
              subst hgv
              have hrk := HFL.out.rows k hlt
              rw [← HE.out.1, ← HE.out.2.1, ← HE.out.2.2] at hrk
              have hgs2 := HG.out.kept.row HFL.out.gs fun y hy hy2 => rows_neS hrk HFL.out.gs (by decide) y hy2 hy
              have hck := row_cellP hgs2 hlt
              have hfk := hgs2.frozenAt k
              have HDN := Lib.hid (HFL.out.done (by decide) HD.out hlt (w' := wr) (gv := .slice A2 (m + 64) cap2) (by rw [← HE.out.1, ← HE.out.2.1, ← HE.out.2.2]; exact HG.out.kept) (by rw [← HE.out.1, ← HE.out.2.1, ← HE.out.2.2]; exact HG.out.old) (by rw [← HE.out.2.1]; exact ⟨_, wideM k, HG.out.new, fun _ _ => rfl⟩) (fun b hb => by
                rw [← HE.out.1, ← HE.out.2.1, ← HE.out.2.2]
                rcases HG.out.place with h | h
                · rw [h] at hb; exact .inl ((own_lenS _ _ _ _ _).trans hb)
                · exact .inr (h b hb)))
              clear hgs2 hrk
              obtain ⟨u, hu⟩ : ∃ u, wr.cell? ⟨H, k, none⟩ = some u := ⟨_, hck⟩
              clear hck
              go_wp2_with fail
              go_roundw
              case rel => exact ⟨k + 1, _, by omega, by go_num, HDN.out⟩
              case measure => simp [intOf]; omega
        · obtain rfl : k = K := by omega
          obtain ⟨wp, hwp⟩ : ∃ wp, wp = wr := ⟨_, rfl⟩
          subst hwp
          obtain ⟨K, hKk⟩ : ∃ K, K = k := ⟨_, rfl⟩
          subst hKk
          go_wp2_with fail
          go_loopw [9] (fun i wr => ∃ k : Nat, k ≤ K ∧ i = .int .i64 k ∧ Below wp.heap.size wp wr) (fun i _ => K - (intOf i).toNat)
          case atStart => exact ⟨0, Nat.zero_le _, rfl, Below.refl _ _⟩
          case round =>
            obtain ⟨k, hk, rfl, hbw⟩ := hrel
            have HB := Lib.hid hbw
            clear hbw
            by_cases hlt : k < K
            · obtain ⟨a, ha⟩ : ∃ a, a = A k := ⟨_, rfl⟩
              obtain ⟨m, hm⟩ : ∃ a, a = n k := ⟨_, rfl⟩
              obtain ⟨d, hd⟩ : ∃ a, a = c k := ⟨_, rfl⟩
              have hm9 := HN.out k hlt
              rw [← hm] at hm9
              have HE := Lib.hid (And.intro ha (And.intro hm hd))
              clear ha hm hd
              have i1 : (0 : Int) ≤ k := by omega
              have i2 : (k : Int) < K := by omega
              have c0 := ls_cellP HLS.out HFL.out.kept HF.out hlt
              have c1 := row_cellP HFL.out.gs hlt
              have hro := HFL.out.rows k hlt
              rw [← HE.out.1, ← HE.out.2.1, ← HE.out.2.2] at c0 hro
              obtain ⟨⟨F, hFw, hgo, hgf⟩, _⟩ := HFL.out.grown k hlt
              rw [← HE.out.2.1] at hgo hgf
              obtain ⟨A2, cap2, hgv, hga, _⟩ := srow_arr hFw hgo
              rw [hgv] at c1
              have HGA := Lib.hid hga
              have HGF := Lib.hid hgf
              obtain ⟨A3, cap3, hrv, hra, _⟩ := srow_arr (wideM k) hro
              injection hrv with e1
              subst e1
              have HRA := Lib.hid hra
              obtain ⟨t, ht⟩ : ∃ t, t = m + 64 := ⟨_, rfl⟩
              rw [← ht] at c1
              have HT := Lib.hid ht
              have ht9 : t ≤ 900000064 := by omega
              have C0 : Hid (∀ wi, Below wp.heap.size wp wi → wi.cell? ⟨sl, k, none⟩ = some (.slice a m d) ∧ wi.cell? ⟨H, k, none⟩ = some (.slice A2 t cap2)) := Lib.hid fun wi hb => ⟨(hb.cell (p := ⟨sl, k, none⟩) (World.block_lt_of_cell? wp _ c0)).trans c0, (hb.cell (p := ⟨H, k, none⟩) (World.block_lt_of_cell? wp _ c1)).trans c1⟩
              obtain ⟨c0, c1⟩ := C0.out wr HB.out
              clear hgo hgf hgv hga hro hra ht
              go_wp2_with fail
              go_loopw [10] (fun i wi => ∃ q : Nat, q ≤ t ∧ i = .int .i64 q ∧ Below wp.heap.size wp wi) (fun i _ => t - (intOf i).toNat)
              case atStart => exact ⟨0, Nat.zero_le _, rfl, HB.out⟩
              case round =>
                clear c0 c1 HB
                obtain ⟨q, hq, rfl, hbw⟩ := hrel
                have HB := Lib.hid hbw
                clear hbw
                obtain ⟨c0, c1⟩ := C0.out wr HB.out
                by_cases hql : q < t
                · obtain ⟨b2, off2, rfl, hb2, hc2⟩ := HGA.out (by omega)
                  have E2 : Hid (∀ wi, Below wp.heap.size wp wi → wi.rangeAt b2 (off2 + q * 73) (mkF k q)) := Lib.hid fun wi hb => by
                    have h := hc2 q (by have := HT.out; omega)
                    rw [HGF.out q (by have := HT.out; omega)] at h
                    exact rangeLow h hb hb2
                  have j1 : (0 : Int) ≤ q := by omega
                  have j2 : (q : Int) < t := by omega
                  clear hc2
                  obtain ⟨cs, hx⟩ : ∃ x, x = mkF k q := ⟨_, rfl⟩
                  rw [← hx] at E2
                  have HX : Hid (cs = cellsIt (mkIt k q)) := Lib.hid hx
                  have HSZ : Hid ((Tryz.prog.info? 75).map (·.size) = some cs.length) := Lib.hid (by rw [HX.out]; exact sizeFIt _)
                  have HEQ : Hid (∀ W, EqRun Tryz.prog 75 cs.toArray cs.toArray W true) := Lib.hid fun W => by rw [HX.out]; exact eqrIt _ W
                  clear hx
                  by_cases hqm : q < m
                  · obtain ⟨b3, off3, rfl, hb3, hc3⟩ := HRA.out (by omega)
                    have SS : Hid (∀ wi, Below wp.heap.size wp wi → wi.cell? ⟨sl, k, none⟩ = some (.slice (some ⟨b3, off3, none⟩) m d) ∧ wi.cell? ⟨H, k, none⟩ = some (.slice (some ⟨b2, off2, none⟩) t cap2) ∧ wi.rangeAt b2 (off2 + q * 73) cs ∧ wi.rangeAt b3 (off3 + q * 73) cs) := Lib.hid fun wi hb => by
                      have h := hc3 q hqm
                      change wp.rangeAt _ _ (mkF k q) at h
                      rw [show mkF k q = cs from HX.out.symm] at h
                      have e1 := E2.out wi hb
                      exact ⟨(C0.out wi hb).1, (C0.out wi hb).2, e1, rangeLow h hb hb3⟩
                    have j3 : (q : Int) < m := by omega
                    have t1 : decide (q < m) = true := by simp; omega
                    have t2 : decide ((q : Int) < m) = true := by simp; omega
                    clear hc3
                    go_wp2_with fail
                    refine wp_region_held_drew (S := fun wi => wi.cell? ⟨sl, k, none⟩ = some (.slice (some ⟨b3, off3, none⟩) m d) ∧ wi.cell? ⟨H, k, none⟩ = some (.slice (some ⟨b2, off2, none⟩) t cap2) ∧ wi.rangeAt b2 (off2 + q * 73) cs ∧ wi.rangeAt b3 (off3 + q * 73) cs) (by kernel_rfl) (SS.out _ (below_drewN HB.out 1)) (fun hHeld => ?_)
                    clear c0 c1
                    refine wpAnyH_take (i := 0) (v := ?_) (by simp only [List.getElem?_toArray, List.getElem?_cons_zero]; rfl) (by kernel_rfl) (by kernel_rfl) (by kernel_rfl) (by intro _ _ _ h; exact h) (Or.inl ⟨by rfl, ?_⟩) hHeld ?_
                    rotate_left
                    · (intro w hSw; (try dsimp only at hSw); go_simp; try with_reducible rfl)
                    try simp only [Act.put, List.setIfInBounds_toArray, List.set_cons_zero, List.set_cons_succ]
                    refine wpAnyH_take (i := 1) (v := ?_) (by simp only [List.getElem?_toArray, List.getElem?_cons_zero, List.getElem?_cons_succ]; rfl) (by kernel_rfl) (by kernel_rfl) (by kernel_rfl) (by intro _ _ _ h; exact h) (Or.inl ⟨by rfl, ?_⟩) hHeld ?_
                    rotate_left
                    · (intro w hSw; (try dsimp only at hSw); go_simp; try with_reducible rfl)
                    try simp only [Act.put, List.setIfInBounds_toArray, List.set_cons_zero, List.set_cons_succ]
                    refine wpAnyH_take (i := 2) (v := ?_) (by simp only [List.getElem?_toArray, List.getElem?_cons_zero, List.getElem?_cons_succ]; rfl) (by kernel_rfl) (by kernel_rfl) (by kernel_rfl) (by intro _ _ _ h; exact h) (Or.inl ⟨by rfl, ?_⟩) hHeld ?_
                    rotate_left
                    · (intro w hSw; (try dsimp only at hSw); go_simp; try with_reducible rfl)
                    try simp only [Act.put, List.setIfInBounds_toArray, List.set_cons_zero, List.set_cons_succ]
                    refine wpAnyH_take (i := 3) (v := ?_) (by simp only [List.getElem?_toArray, List.getElem?_cons_zero, List.getElem?_cons_succ]; rfl) (by kernel_rfl) (by kernel_rfl) (by kernel_rfl) (by intro _ _ _ h; exact h) (Or.inl ⟨by rfl, ?_⟩) hHeld ?_
                    rotate_left
                    · (intro w hSw; (try dsimp only at hSw); go_simp; try with_reducible rfl)
                    try simp only [Act.put, List.setIfInBounds_toArray, List.set_cons_zero, List.set_cons_succ]
                    refine wpAnyH_take (i := 4) (v := ?_) (by simp only [List.getElem?_toArray, List.getElem?_cons_zero, List.getElem?_cons_succ]; rfl) (by kernel_rfl) (by kernel_rfl) (by kernel_rfl) (by intro _ _ _ h; exact h) (Or.inl ⟨by rfl, ?_⟩) hHeld ?_
                    rotate_left
                    · (intro w hSw; (try dsimp only at hSw); go_simp; try with_reducible rfl)
                    try simp only [Act.put, List.setIfInBounds_toArray, List.set_cons_zero, List.set_cons_succ]
                    refine wpAnyH_take (i := 5) (v := ?_) (by simp only [List.getElem?_toArray, List.getElem?_cons_zero, List.getElem?_cons_succ]; rfl) (by kernel_rfl) (by kernel_rfl) (by kernel_rfl) (by intro _ _ _ h; exact h) (Or.inl ⟨by rfl, ?_⟩) hHeld ?_
                    rotate_left
                    · (intro w hSw; (try dsimp only at hSw); go_simp; try with_reducible rfl)
                    try simp only [Act.put, List.setIfInBounds_toArray, List.set_cons_zero, List.set_cons_succ]
                    refine wpAnyH_take (i := 6) (v := _) (by simp only [List.getElem?_toArray, List.getElem?_cons_zero, List.getElem?_cons_succ]; rfl) (by kernel_rfl) (by kernel_rfl) (by kernel_rfl) (by intro _ _ _ h; exact h) (yieldsIf_load_mid (by rfl) 75 (.tmp 93) rfl b2 (off2 + q * 73) rfl cs _ (fun _ h => h.2.2.1) Tryz.underlying75 rfl HSZ.out) hHeld ?_
                    try simp only [Act.put, List.setIfInBounds_toArray, List.set_cons_zero, List.set_cons_succ]
                    refine wpAnyH_take (i := 7) (v := ?_) (by simp only [List.getElem?_toArray, List.getElem?_cons_zero, List.getElem?_cons_succ]; rfl) (by kernel_rfl) (by kernel_rfl) (by kernel_rfl) (by intro _ _ _ h; exact h) (Or.inl ⟨by rfl, ?_⟩) hHeld ?_
                    rotate_left
                    · (intro w hSw; (try dsimp only at hSw); go_simp; try with_reducible rfl)
                    try simp only [Act.put, List.setIfInBounds_toArray, List.set_cons_zero, List.set_cons_succ]
                    refine wpAnyH_take (i := 8) (v := ?_) (by simp only [List.getElem?_toArray, List.getElem?_cons_zero, List.getElem?_cons_succ]; rfl) (by kernel_rfl) (by kernel_rfl) (by kernel_rfl) (by intro _ _ _ h; exact h) (Or.inl ⟨by rfl, ?_⟩) hHeld ?_
                    rotate_left
                    · (intro w hSw; (try dsimp only at hSw); go_simp; try with_reducible rfl)
                    try simp only [Act.put, List.setIfInBounds_toArray, List.set_cons_zero, List.set_cons_succ]
                    refine wpAnyH_ready (rs := [9]) (by kernel_rfl) (by simp) ?_
                    refine AllReadyH.cons (by simp only [List.getElem?_toArray, List.getElem?_cons_zero, List.getElem?_cons_succ]; rfl) (fun K hK => ?_) AllReadyH.nil
                    rw [if_pos (by rfl)]
                    go_simp
                    refine (markIt k q _ (by omega) (by omega)).mono ?_
                    rw [← HX.out]
                    rintro e w2 ⟨rfl, hbm⟩
                    have HB2 := Lib.hid ((below_drewN HB.out 1).trans (hbm.mono (below_drewN HB.out 1).size))
                    clear hbm
                    refine hK.out _ _ (SS.out _ HB2.out) (fun hHeld => ?_)
                    clear hK
                    try simp only [Act.put, List.setIfInBounds_toArray, List.set_cons_zero, List.set_cons_succ]
                    refine wpAnyH_take (i := 10) (v := _) (by simp only [List.getElem?_toArray, List.getElem?_cons_zero, List.getElem?_cons_succ]; rfl) (by kernel_rfl) (by kernel_rfl) (by kernel_rfl) (by intro _ _ _ h; exact h) (yields_eql (by rfl) 75 (.tmp 94) (.tmp 97) rfl cs.toArray cs.toArray rfl rfl true eqgIt (fun W => HEQ.out W)) hHeld ?_
                    try simp only [Act.put, List.setIfInBounds_toArray, List.set_cons_zero, List.set_cons_succ]
                    refine wpAnyH_take (i := 11) (v := ?_) (by simp only [List.getElem?_toArray, List.getElem?_cons_zero, List.getElem?_cons_succ]; rfl) (by kernel_rfl) (by kernel_rfl) (by kernel_rfl) (by intro _ _ _ h; exact h) (Or.inl ⟨by rfl, ?_⟩) hHeld ?_
                    rotate_left
                    · (intro w hSw; (try dsimp only at hSw); go_simp; try with_reducible rfl)
                    try simp only [Act.put, List.setIfInBounds_toArray, List.set_cons_zero, List.set_cons_succ]
                    refine wpAnyH_take (i := 12) (v := ?_) (by simp only [List.getElem?_toArray, List.getElem?_cons_zero, List.getElem?_cons_succ]; rfl) (by kernel_rfl) (by kernel_rfl) (by kernel_rfl) (by intro _ _ _ h; exact h) (Or.inl ⟨by rfl, ?_⟩) hHeld ?_
                    rotate_left
                    · (intro w hSw; (try dsimp only at hSw); go_simp; try with_reducible rfl)
                    try simp only [Act.put, List.setIfInBounds_toArray, List.set_cons_zero, List.set_cons_succ]
                    refine wpAnyH_take (i := 13) (v := ?_) (by simp only [List.getElem?_toArray, List.getElem?_cons_zero, List.getElem?_cons_succ]; rfl) (by kernel_rfl) (by kernel_rfl) (by kernel_rfl) (by intro _ _ _ h; exact h) (Or.inl ⟨by rfl, ?_⟩) hHeld ?_
                    rotate_left
                    · (intro w hSw; (try dsimp only at hSw); go_simp; try with_reducible rfl)
                    try simp only [Act.put, List.setIfInBounds_toArray, List.set_cons_zero, List.set_cons_succ]
                    refine wpAnyH_take (i := 14) (v := ?_) (by simp only [List.getElem?_toArray, List.getElem?_cons_zero, List.getElem?_cons_succ]; rfl) (by kernel_rfl) (by kernel_rfl) (by kernel_rfl) (by intro _ _ _ h; exact h) (Or.inl ⟨by rfl, ?_⟩) hHeld ?_
                    rotate_left
                    · (intro w hSw; (try dsimp only at hSw); go_simp; try with_reducible rfl)
                    try simp only [Act.put, List.setIfInBounds_toArray, List.set_cons_zero, List.set_cons_succ]
                    refine wpAnyH_take (i := 15) (v := ?_) (by simp only [List.getElem?_toArray, List.getElem?_cons_zero, List.getElem?_cons_succ]; rfl) (by kernel_rfl) (by kernel_rfl) (by kernel_rfl) (by intro _ _ _ h; exact h) (Or.inl ⟨by rfl, ?_⟩) hHeld ?_
                    rotate_left
                    · (intro w hSw; (try dsimp only at hSw); go_simp; try with_reducible rfl)
                    try simp only [Act.put, List.setIfInBounds_toArray, List.set_cons_zero, List.set_cons_succ]
                    refine wpAnyH_take (i := 16) (v := ?_) (by simp only [List.getElem?_toArray, List.getElem?_cons_zero, List.getElem?_cons_succ]; rfl) (by kernel_rfl) (by kernel_rfl) (by kernel_rfl) (by intro _ _ _ h; exact h) (Or.inl ⟨by rfl, ?_⟩) hHeld ?_
                    rotate_left
                    · (intro w hSw; (try dsimp only at hSw); go_simp; try with_reducible rfl)
                    try simp only [Act.put, List.setIfInBounds_toArray, List.set_cons_zero, List.set_cons_succ]
                    refine wpAnyH_take (i := 17) (v := ?_) (by simp only [List.getElem?_toArray, List.getElem?_cons_zero, List.getElem?_cons_succ]; rfl) (by kernel_rfl) (by kernel_rfl) (by kernel_rfl) (by intro _ _ _ h; exact h) (Or.inl ⟨by rfl, ?_⟩) hHeld ?_
                    rotate_left
                    · (intro w hSw; (try dsimp only at hSw); go_simp; try with_reducible rfl)
                    try simp only [Act.put, List.setIfInBounds_toArray, List.set_cons_zero, List.set_cons_succ]
                    refine wpAnyH_take (i := 18) (v := ?_) (by simp only [List.getElem?_toArray, List.getElem?_cons_zero, List.getElem?_cons_succ]; rfl) (by kernel_rfl) (by kernel_rfl) (by kernel_rfl) (by intro _ _ _ h; exact h) (Or.inl ⟨by rfl, ?_⟩) hHeld ?_
                    rotate_left
                    · (intro w hSw; (try dsimp only at hSw); go_simp; try with_reducible rfl)
                    try simp only [Act.put, List.setIfInBounds_toArray, List.set_cons_zero, List.set_cons_succ]
                    refine wpAnyH_take (i := 19) (v := ?_) (by simp only [List.getElem?_toArray, List.getElem?_cons_zero, List.getElem?_cons_succ]; rfl) (by kernel_rfl) (by kernel_rfl) (by kernel_rfl) (by intro _ _ _ h; exact h) (Or.inl ⟨by rfl, ?_⟩) hHeld ?_
                    rotate_left
                    · (intro w hSw; (try dsimp only at hSw); go_simp; try with_reducible rfl)
                    try simp only [Act.put, List.setIfInBounds_toArray, List.set_cons_zero, List.set_cons_succ]
                    refine wpAnyH_take (i := 20) (v := ?_) (by simp only [List.getElem?_toArray, List.getElem?_cons_zero, List.getElem?_cons_succ]; rfl) (by kernel_rfl) (by kernel_rfl) (by kernel_rfl) (by intro _ _ _ h; exact h) (Or.inl ⟨by rfl, ?_⟩) hHeld ?_
                    rotate_left
                    · (intro w hSw; (try dsimp only at hSw); go_simp; try with_reducible rfl)
                    try simp only [Act.put, List.setIfInBounds_toArray, List.set_cons_zero, List.set_cons_succ]
                    refine wpAnyH_take (i := 21) (v := ?_) (by simp only [List.getElem?_toArray, List.getElem?_cons_zero, List.getElem?_cons_succ]; rfl) (by kernel_rfl) (by kernel_rfl) (by kernel_rfl) (by intro _ _ _ h; exact h) (Or.inl ⟨by rfl, ?_⟩) hHeld ?_
                    rotate_left
                    · (intro w hSw; (try dsimp only at hSw); go_simp; try with_reducible rfl)
                    try simp only [Act.put, List.setIfInBounds_toArray, List.set_cons_zero, List.set_cons_succ]
                    refine wpAnyH_take (i := 22) (v := ?_) (by simp only [List.getElem?_toArray, List.getElem?_cons_zero, List.getElem?_cons_succ]; rfl) (by kernel_rfl) (by kernel_rfl) (by kernel_rfl) (by intro _ _ _ h; exact h) (Or.inl ⟨by rfl, ?_⟩) hHeld ?_
                    rotate_left
                    · (intro w hSw; (try dsimp only at hSw); go_simp; try with_reducible rfl)
                    try simp only [Act.put, List.setIfInBounds_toArray, List.set_cons_zero, List.set_cons_succ]
                    refine wpAnyH_take (i := 23) (v := ?_) (by simp only [List.getElem?_toArray, List.getElem?_cons_zero, List.getElem?_cons_succ]; rfl) (by kernel_rfl) (by kernel_rfl) (by kernel_rfl) (by intro _ _ _ h; exact h) (Or.inl ⟨by rfl, ?_⟩) hHeld ?_
                    rotate_left
                    · (intro w hSw; (try dsimp only at hSw); go_simp; try with_reducible rfl)
                    try simp only [Act.put, List.setIfInBounds_toArray, List.set_cons_zero, List.set_cons_succ]
                    refine wpAnyH_take (i := 24) (v := ?_) (by simp only [List.getElem?_toArray, List.getElem?_cons_zero, List.getElem?_cons_succ]; rfl) (by kernel_rfl) (by kernel_rfl) (by kernel_rfl) (by intro _ _ _ h; exact h) (Or.inl ⟨by rfl, ?_⟩) hHeld ?_
                    rotate_left
                    · (intro w hSw; (try dsimp only at hSw); go_simp; try with_reducible rfl)
                    try simp only [Act.put, List.setIfInBounds_toArray, List.set_cons_zero, List.set_cons_succ]
                    refine wpAnyH_take (i := 25) (v := ?_) (by simp only [List.getElem?_toArray, List.getElem?_cons_zero, List.getElem?_cons_succ]; rfl) (by kernel_rfl) (by kernel_rfl) (by kernel_rfl) (by intro _ _ _ h; exact h) (Or.inl ⟨by rfl, ?_⟩) hHeld ?_
                    rotate_left
                    · (intro w hSw; (try dsimp only at hSw); go_simp; try with_reducible rfl)
                    try simp only [Act.put, List.setIfInBounds_toArray, List.set_cons_zero, List.set_cons_succ]
                    refine wpAnyH_take (i := 26) (v := ?_) (by simp only [List.getElem?_toArray, List.getElem?_cons_zero, List.getElem?_cons_succ]; rfl) (by kernel_rfl) (by kernel_rfl) (by kernel_rfl) (by intro _ _ _ h; exact h) (Or.inl ⟨by rfl, ?_⟩) hHeld ?_
                    rotate_left
                    · (intro w hSw; (try dsimp only at hSw); go_simp; try with_reducible rfl)
                    try simp only [Act.put, List.setIfInBounds_toArray, List.set_cons_zero, List.set_cons_succ]
                    refine wpAnyH_take (i := 27) (v := _) (by simp only [List.getElem?_toArray, List.getElem?_cons_zero, List.getElem?_cons_succ]; rfl) (by kernel_rfl) (by kernel_rfl) (by kernel_rfl) (by intro _ _ _ h; exact h) (yieldsIf_load_mid (by rfl) 75 (.tmp 114) rfl b3 (off3 + q * 73) rfl cs _ (fun _ h => h.2.2.2) Tryz.underlying75 rfl HSZ.out) hHeld ?_
                    try simp only [Act.put, List.setIfInBounds_toArray, List.set_cons_zero, List.set_cons_succ]
                    refine wpAnyH_take (i := 28) (v := ?_) (by simp only [List.getElem?_toArray, List.getElem?_cons_zero, List.getElem?_cons_succ]; rfl) (by kernel_rfl) (by kernel_rfl) (by kernel_rfl) (by intro _ _ _ h; exact h) (Or.inl ⟨by rfl, ?_⟩) hHeld ?_
                    rotate_left
                    · (intro w hSw; (try dsimp only at hSw); go_simp; try with_reducible rfl)
                    try simp only [Act.put, List.setIfInBounds_toArray, List.set_cons_zero, List.set_cons_succ]
                    refine wpAnyH_take (i := 29) (v := ?_) (by simp only [List.getElem?_toArray, List.getElem?_cons_zero, List.getElem?_cons_succ]; rfl) (by kernel_rfl) (by kernel_rfl) (by kernel_rfl) (by intro _ _ _ h; exact h) (Or.inl ⟨by rfl, ?_⟩) hHeld ?_
                    rotate_left
                    · (intro w hSw; (try dsimp only at hSw); go_simp; try with_reducible rfl)
                    try simp only [Act.put, List.setIfInBounds_toArray, List.set_cons_zero, List.set_cons_succ]
                    refine wpAnyH_ready (rs := [30]) (by kernel_rfl) (by simp) ?_
                    refine AllReadyH.cons (by simp only [List.getElem?_toArray, List.getElem?_cons_zero, List.getElem?_cons_succ]; rfl) (fun K hK => ?_) AllReadyH.nil
                    rw [if_pos (by rfl)]
                    go_simp
                    refine (markIt k q _ (by omega) (by omega)).mono ?_
                    rw [← HX.out]
                    rintro e w3 ⟨rfl, hbm⟩
                    have HB3 := Lib.hid (HB2.out.trans (hbm.mono HB2.out.size))
                    clear hbm
                    refine hK.out _ _ (SS.out _ HB3.out) (fun hHeld => ?_)
                    clear hK
                    try simp only [Act.put, List.setIfInBounds_toArray, List.set_cons_zero, List.set_cons_succ]
                    refine wpAnyH_take (i := 31) (v := _) (by simp only [List.getElem?_toArray, List.getElem?_cons_zero, List.getElem?_cons_succ]; rfl) (by kernel_rfl) (by kernel_rfl) (by kernel_rfl) (by intro _ _ _ h; exact h) (yields_eql (by rfl) 75 (.tmp 115) (.tmp 118) rfl cs.toArray cs.toArray rfl rfl true eqgIt (fun W => HEQ.out W)) hHeld ?_
                    try simp only [Act.put, List.setIfInBounds_toArray, List.set_cons_zero, List.set_cons_succ]
                    refine wpAnyH_take (i := 32) (v := ?_) (by simp only [List.getElem?_toArray, List.getElem?_cons_zero, List.getElem?_cons_succ]; rfl) (by kernel_rfl) (by kernel_rfl) (by kernel_rfl) (by intro _ _ _ h; exact h) (Or.inl ⟨by rfl, ?_⟩) hHeld ?_
                    rotate_left
                    · (intro w hSw; (try dsimp only at hSw); go_simp; try with_reducible rfl)
                    try simp only [Act.put, List.setIfInBounds_toArray, List.set_cons_zero, List.set_cons_succ]
                    refine wpAnyH_take (i := 33) (v := ?_) (by simp only [List.getElem?_toArray, List.getElem?_cons_zero, List.getElem?_cons_succ]; rfl) (by kernel_rfl) (by kernel_rfl) (by kernel_rfl) (by intro _ _ _ h; exact h) (Or.inl ⟨by rfl, ?_⟩) hHeld ?_
                    rotate_left
                    · (intro w hSw; (try dsimp only at hSw); go_simp; try with_reducible rfl)
                    try simp only [Act.put, List.setIfInBounds_toArray, List.set_cons_zero, List.set_cons_succ]
                    refine wpAnyH_take (i := 34) (v := ?_) (by simp only [List.getElem?_toArray, List.getElem?_cons_zero, List.getElem?_cons_succ]; rfl) (by kernel_rfl) (by kernel_rfl) (by kernel_rfl) (by intro _ _ _ h; exact h) (Or.inl ⟨by rfl, ?_⟩) hHeld ?_
                    rotate_left
                    · (intro w hSw; (try dsimp only at hSw); go_simp; try with_reducible rfl)
                    try simp only [Act.put, List.setIfInBounds_toArray, List.set_cons_zero, List.set_cons_succ]
                    refine wpAnyH_done (by kernel_rfl) ?_ _
                    clear hHeld
                    go_wp2_with fail
                    go_roundw
                    case rel => exact ⟨q + 1, by omega, by go_num, HB3.out⟩
                    case measure => simp [intOf]; omega
                  · have SS : Hid (∀ wi, Below wp.heap.size wp wi → wi.cell? ⟨sl, k, none⟩ = some (.slice a m d) ∧ wi.cell? ⟨H, k, none⟩ = some (.slice (some ⟨b2, off2, none⟩) t cap2) ∧ wi.rangeAt b2 (off2 + q * 73) cs) := Lib.hid fun wi hb => ⟨(C0.out wi hb).1, (C0.out wi hb).2, E2.out wi hb⟩
                    have t1 : decide (q < m) = false := by simp; omega
                    have t2 : decide ((q : Int) < m) = false := by simp; omega
                    go_wp2_with fail
                    refine wp_region_held_drew (S := fun wi => wi.cell? ⟨sl, k, none⟩ = some (.slice a m d) ∧ wi.cell? ⟨H, k, none⟩ = some (.slice (some ⟨b2, off2, none⟩) t cap2) ∧ wi.rangeAt b2 (off2 + q * 73) cs) (by kernel_rfl) (SS.out _ (below_drewN HB.out 1)) (fun hHeld => ?_)
                    clear c0 c1
                    refine wpAnyH_take (i := 0) (v := ?_) (by simp only [List.getElem?_toArray, List.getElem?_cons_zero]; rfl) (by kernel_rfl) (by kernel_rfl) (by kernel_rfl) (by intro _ _ _ h; exact h) (Or.inl ⟨by rfl, ?_⟩) hHeld ?_
                    rotate_left
                    · (intro w hSw; (try dsimp only at hSw); go_simp; try with_reducible rfl)
                    try simp only [Act.put, List.setIfInBounds_toArray, List.set_cons_zero, List.set_cons_succ]
                    refine wpAnyH_take (i := 1) (v := ?_) (by simp only [List.getElem?_toArray, List.getElem?_cons_zero, List.getElem?_cons_succ]; rfl) (by kernel_rfl) (by kernel_rfl) (by kernel_rfl) (by intro _ _ _ h; exact h) (Or.inl ⟨by rfl, ?_⟩) hHeld ?_
                    rotate_left
                    · (intro w hSw; (try dsimp only at hSw); go_simp; try with_reducible rfl)
                    try simp only [Act.put, List.setIfInBounds_toArray, List.set_cons_zero, List.set_cons_succ]
                    refine wpAnyH_take (i := 2) (v := ?_) (by simp only [List.getElem?_toArray, List.getElem?_cons_zero, List.getElem?_cons_succ]; rfl) (by kernel_rfl) (by kernel_rfl) (by kernel_rfl) (by intro _ _ _ h; exact h) (Or.inl ⟨by rfl, ?_⟩) hHeld ?_
                    rotate_left
                    · (intro w hSw; (try dsimp only at hSw); go_simp; try with_reducible rfl)
                    try simp only [Act.put, List.setIfInBounds_toArray, List.set_cons_zero, List.set_cons_succ]
                    refine wpAnyH_take (i := 3) (v := ?_) (by simp only [List.getElem?_toArray, List.getElem?_cons_zero, List.getElem?_cons_succ]; rfl) (by kernel_rfl) (by kernel_rfl) (by kernel_rfl) (by intro _ _ _ h; exact h) (Or.inl ⟨by rfl, ?_⟩) hHeld ?_
                    rotate_left
                    · (intro w hSw; (try dsimp only at hSw); go_simp; try with_reducible rfl)
                    try simp only [Act.put, List.setIfInBounds_toArray, List.set_cons_zero, List.set_cons_succ]
                    refine wpAnyH_take (i := 4) (v := ?_) (by simp only [List.getElem?_toArray, List.getElem?_cons_zero, List.getElem?_cons_succ]; rfl) (by kernel_rfl) (by kernel_rfl) (by kernel_rfl) (by intro _ _ _ h; exact h) (Or.inl ⟨by rfl, ?_⟩) hHeld ?_
                    rotate_left
                    · (intro w hSw; (try dsimp only at hSw); go_simp; try with_reducible rfl)
                    try simp only [Act.put, List.setIfInBounds_toArray, List.set_cons_zero, List.set_cons_succ]
                    refine wpAnyH_take (i := 5) (v := ?_) (by simp only [List.getElem?_toArray, List.getElem?_cons_zero, List.getElem?_cons_succ]; rfl) (by kernel_rfl) (by kernel_rfl) (by kernel_rfl) (by intro _ _ _ h; exact h) (Or.inl ⟨by rfl, ?_⟩) hHeld ?_
                    rotate_left
                    · (intro w hSw; (try dsimp only at hSw); go_simp; try with_reducible rfl)
                    try simp only [Act.put, List.setIfInBounds_toArray, List.set_cons_zero, List.set_cons_succ]
                    refine wpAnyH_take (i := 6) (v := _) (by simp only [List.getElem?_toArray, List.getElem?_cons_zero, List.getElem?_cons_succ]; rfl) (by kernel_rfl) (by kernel_rfl) (by kernel_rfl) (by intro _ _ _ h; exact h) (yieldsIf_load_mid (by rfl) 75 (.tmp 93) rfl b2 (off2 + q * 73) rfl cs _ (fun _ h => h.2.2) Tryz.underlying75 rfl HSZ.out) hHeld ?_
                    try simp only [Act.put, List.setIfInBounds_toArray, List.set_cons_zero, List.set_cons_succ]
                    refine wpAnyH_take (i := 7) (v := ?_) (by simp only [List.getElem?_toArray, List.getElem?_cons_zero, List.getElem?_cons_succ]; rfl) (by kernel_rfl) (by kernel_rfl) (by kernel_rfl) (by intro _ _ _ h; exact h) (Or.inl ⟨by rfl, ?_⟩) hHeld ?_
                    rotate_left
                    · (intro w hSw; (try dsimp only at hSw); go_simp; try with_reducible rfl)
                    try simp only [Act.put, List.setIfInBounds_toArray, List.set_cons_zero, List.set_cons_succ]
                    refine wpAnyH_take (i := 8) (v := ?_) (by simp only [List.getElem?_toArray, List.getElem?_cons_zero, List.getElem?_cons_succ]; rfl) (by kernel_rfl) (by kernel_rfl) (by kernel_rfl) (by intro _ _ _ h; exact h) (Or.inl ⟨by rfl, ?_⟩) hHeld ?_
                    rotate_left
                    · (intro w hSw; (try dsimp only at hSw); go_simp; try with_reducible rfl)
                    try simp only [Act.put, List.setIfInBounds_toArray, List.set_cons_zero, List.set_cons_succ]
                    refine wpAnyH_ready (rs := [9]) (by kernel_rfl) (by simp) ?_
                    refine AllReadyH.cons (by simp only [List.getElem?_toArray, List.getElem?_cons_zero, List.getElem?_cons_succ]; rfl) (fun K hK => ?_) AllReadyH.nil
                    rw [if_pos (by rfl)]
                    go_simp
                    refine (markIt k q _ (by omega) (by omega)).mono ?_
                    rw [← HX.out]
                    rintro e w2 ⟨rfl, hbm⟩
                    have HB2 := Lib.hid ((below_drewN HB.out 1).trans (hbm.mono (below_drewN HB.out 1).size))
                    clear hbm
                    refine hK.out _ _ (SS.out _ HB2.out) (fun hHeld => ?_)
                    clear hK
                    try simp only [Act.put, List.setIfInBounds_toArray, List.set_cons_zero, List.set_cons_succ]
                    refine wpAnyH_take (i := 10) (v := _) (by simp only [List.getElem?_toArray, List.getElem?_cons_zero, List.getElem?_cons_succ]; rfl) (by kernel_rfl) (by kernel_rfl) (by kernel_rfl) (by intro _ _ _ h; exact h) (yields_eql (by rfl) 75 (.tmp 94) (.tmp 97) rfl cs.toArray cs.toArray rfl rfl true eqgIt (fun W => HEQ.out W)) hHeld ?_
                    try simp only [Act.put, List.setIfInBounds_toArray, List.set_cons_zero, List.set_cons_succ]
                    refine wpAnyH_take (i := 11) (v := ?_) (by simp only [List.getElem?_toArray, List.getElem?_cons_zero, List.getElem?_cons_succ]; rfl) (by kernel_rfl) (by kernel_rfl) (by kernel_rfl) (by intro _ _ _ h; exact h) (Or.inl ⟨by rfl, ?_⟩) hHeld ?_
                    rotate_left
                    · (intro w hSw; (try dsimp only at hSw); go_simp; try with_reducible rfl)
                    try simp only [Act.put, List.setIfInBounds_toArray, List.set_cons_zero, List.set_cons_succ]
                    refine wpAnyH_take (i := 12) (v := ?_) (by simp only [List.getElem?_toArray, List.getElem?_cons_zero, List.getElem?_cons_succ]; rfl) (by kernel_rfl) (by kernel_rfl) (by kernel_rfl) (by intro _ _ _ h; exact h) (Or.inl ⟨by rfl, ?_⟩) hHeld ?_
                    rotate_left
                    · (intro w hSw; (try dsimp only at hSw); go_simp; try with_reducible rfl)
                    try simp only [Act.put, List.setIfInBounds_toArray, List.set_cons_zero, List.set_cons_succ]
                    refine wpAnyH_take (i := 13) (v := ?_) (by simp only [List.getElem?_toArray, List.getElem?_cons_zero, List.getElem?_cons_succ]; rfl) (by kernel_rfl) (by kernel_rfl) (by kernel_rfl) (by intro _ _ _ h; exact h) (Or.inl ⟨by rfl, ?_⟩) hHeld ?_
                    rotate_left
                    · (intro w hSw; (try dsimp only at hSw); go_simp; try with_reducible rfl)
                    try simp only [Act.put, List.setIfInBounds_toArray, List.set_cons_zero, List.set_cons_succ]
                    refine wpAnyH_take (i := 14) (v := ?_) (by simp only [List.getElem?_toArray, List.getElem?_cons_zero, List.getElem?_cons_succ]; rfl) (by kernel_rfl) (by kernel_rfl) (by kernel_rfl) (by intro _ _ _ h; exact h) (Or.inl ⟨by rfl, ?_⟩) hHeld ?_
                    rotate_left
                    · (intro w hSw; (try dsimp only at hSw); go_simp; try with_reducible rfl)
                    try simp only [Act.put, List.setIfInBounds_toArray, List.set_cons_zero, List.set_cons_succ]
                    refine wpAnyH_take (i := 15) (v := ?_) (by simp only [List.getElem?_toArray, List.getElem?_cons_zero, List.getElem?_cons_succ]; rfl) (by kernel_rfl) (by kernel_rfl) (by kernel_rfl) (by intro _ _ _ h; exact h) (Or.inl ⟨by rfl, ?_⟩) hHeld ?_
                    rotate_left
                    · (intro w hSw; (try dsimp only at hSw); go_simp; try with_reducible rfl)
                    try simp only [Act.put, List.setIfInBounds_toArray, List.set_cons_zero, List.set_cons_succ]
                    refine wpAnyH_take (i := 16) (v := ?_) (by simp only [List.getElem?_toArray, List.getElem?_cons_zero, List.getElem?_cons_succ]; rfl) (by kernel_rfl) (by kernel_rfl) (by kernel_rfl) (by intro _ _ _ h; exact h) (Or.inl ⟨by rfl, ?_⟩) hHeld ?_
                    rotate_left
                    · (intro w hSw; (try dsimp only at hSw); go_simp; try with_reducible rfl)
                    try simp only [Act.put, List.setIfInBounds_toArray, List.set_cons_zero, List.set_cons_succ]
                    refine wpAnyH_take (i := 17) (v := ?_) (by simp only [List.getElem?_toArray, List.getElem?_cons_zero, List.getElem?_cons_succ]; rfl) (by kernel_rfl) (by kernel_rfl) (by kernel_rfl) (by intro _ _ _ h; exact h) (Or.inl ⟨by rfl, ?_⟩) hHeld ?_
                    rotate_left
                    · (intro w hSw; (try dsimp only at hSw); go_simp; try with_reducible rfl)
                    try simp only [Act.put, List.setIfInBounds_toArray, List.set_cons_zero, List.set_cons_succ]
                    refine wpAnyH_take (i := 18) (v := ?_) (by simp only [List.getElem?_toArray, List.getElem?_cons_zero, List.getElem?_cons_succ]; rfl) (by kernel_rfl) (by kernel_rfl) (by kernel_rfl) (by intro _ _ _ h; exact h) (Or.inl ⟨by rfl, ?_⟩) hHeld ?_
                    rotate_left
                    · (intro w hSw; (try dsimp only at hSw); go_simp; try with_reducible rfl)
                    try simp only [Act.put, List.setIfInBounds_toArray, List.set_cons_zero, List.set_cons_succ]
                    refine wpAnyH_take (i := 19) (v := ?_) (by simp only [List.getElem?_toArray, List.getElem?_cons_zero, List.getElem?_cons_succ]; rfl) (by kernel_rfl) (by kernel_rfl) (by kernel_rfl) (by intro _ _ _ h; exact h) (Or.inl ⟨by rfl, ?_⟩) hHeld ?_
                    rotate_left
                    · (intro w hSw; (try dsimp only at hSw); go_simp; try with_reducible rfl)
                    try simp only [Act.put, List.setIfInBounds_toArray, List.set_cons_zero, List.set_cons_succ]
                    refine wpAnyH_take (i := 20) (v := ?_) (by simp only [List.getElem?_toArray, List.getElem?_cons_zero, List.getElem?_cons_succ]; rfl) (by kernel_rfl) (by kernel_rfl) (by kernel_rfl) (by intro _ _ _ h; exact h) (Or.inl ⟨by rfl, ?_⟩) hHeld ?_
                    rotate_left
                    · (intro w hSw; (try dsimp only at hSw); go_simp; try with_reducible rfl)
                    try simp only [Act.put, List.setIfInBounds_toArray, List.set_cons_zero, List.set_cons_succ]
                    refine wpAnyH_take (i := 21) (v := undef) (by simp only [List.getElem?_toArray, List.getElem?_cons_zero, List.getElem?_cons_succ]; rfl) (by kernel_rfl) (by kernel_rfl) (by kernel_rfl) (by intro _ _ _ h; exact h) (Or.inr ⟨by rfl, rfl⟩) hHeld ?_
                    try simp only [Act.put, List.setIfInBounds_toArray, List.set_cons_zero, List.set_cons_succ]
                    refine wpAnyH_take (i := 22) (v := undef) (by simp only [List.getElem?_toArray, List.getElem?_cons_zero, List.getElem?_cons_succ]; rfl) (by kernel_rfl) (by kernel_rfl) (by kernel_rfl) (by intro _ _ _ h; exact h) (Or.inr ⟨by rfl, rfl⟩) hHeld ?_
                    try simp only [Act.put, List.setIfInBounds_toArray, List.set_cons_zero, List.set_cons_succ]
                    refine wpAnyH_take (i := 23) (v := undef) (by simp only [List.getElem?_toArray, List.getElem?_cons_zero, List.getElem?_cons_succ]; rfl) (by kernel_rfl) (by kernel_rfl) (by kernel_rfl) (by intro _ _ _ h; exact h) (Or.inr ⟨by rfl, rfl⟩) hHeld ?_
                    try simp only [Act.put, List.setIfInBounds_toArray, List.set_cons_zero, List.set_cons_succ]
                    refine wpAnyH_take (i := 24) (v := undef) (by simp only [List.getElem?_toArray, List.getElem?_cons_zero, List.getElem?_cons_succ]; rfl) (by kernel_rfl) (by kernel_rfl) (by kernel_rfl) (by intro _ _ _ h; exact h) (Or.inr ⟨by rfl, rfl⟩) hHeld ?_
                    try simp only [Act.put, List.setIfInBounds_toArray, List.set_cons_zero, List.set_cons_succ]
                    refine wpAnyH_take (i := 25) (v := undef) (by simp only [List.getElem?_toArray, List.getElem?_cons_zero, List.getElem?_cons_succ]; rfl) (by kernel_rfl) (by kernel_rfl) (by kernel_rfl) (by intro _ _ _ h; exact h) (Or.inr ⟨by rfl, rfl⟩) hHeld ?_
                    try simp only [Act.put, List.setIfInBounds_toArray, List.set_cons_zero, List.set_cons_succ]
                    refine wpAnyH_take (i := 26) (v := undef) (by simp only [List.getElem?_toArray, List.getElem?_cons_zero, List.getElem?_cons_succ]; rfl) (by kernel_rfl) (by kernel_rfl) (by kernel_rfl) (by intro _ _ _ h; exact h) (Or.inr ⟨by rfl, rfl⟩) hHeld ?_
                    try simp only [Act.put, List.setIfInBounds_toArray, List.set_cons_zero, List.set_cons_succ]
                    refine wpAnyH_take (i := 27) (v := undef) (by simp only [List.getElem?_toArray, List.getElem?_cons_zero, List.getElem?_cons_succ]; rfl) (by kernel_rfl) (by kernel_rfl) (by kernel_rfl) (by intro _ _ _ h; exact h) (Or.inr ⟨by rfl, rfl⟩) hHeld ?_
                    try simp only [Act.put, List.setIfInBounds_toArray, List.set_cons_zero, List.set_cons_succ]
                    refine wpAnyH_take (i := 28) (v := undef) (by simp only [List.getElem?_toArray, List.getElem?_cons_zero, List.getElem?_cons_succ]; rfl) (by kernel_rfl) (by kernel_rfl) (by kernel_rfl) (by intro _ _ _ h; exact h) (Or.inr ⟨by rfl, rfl⟩) hHeld ?_
                    try simp only [Act.put, List.setIfInBounds_toArray, List.set_cons_zero, List.set_cons_succ]
                    refine wpAnyH_take (i := 29) (v := undef) (by simp only [List.getElem?_toArray, List.getElem?_cons_zero, List.getElem?_cons_succ]; rfl) (by kernel_rfl) (by kernel_rfl) (by kernel_rfl) (by intro _ _ _ h; exact h) (Or.inr ⟨by rfl, rfl⟩) hHeld ?_
                    try simp only [Act.put, List.setIfInBounds_toArray, List.set_cons_zero, List.set_cons_succ]
                    refine wpAnyH_take (i := 30) (v := undef) (by simp only [List.getElem?_toArray, List.getElem?_cons_zero, List.getElem?_cons_succ]; rfl) (by kernel_rfl) (by kernel_rfl) (by kernel_rfl) (by intro _ _ _ h; exact h) (Or.inr ⟨by rfl, rfl⟩) hHeld ?_
                    try simp only [Act.put, List.setIfInBounds_toArray, List.set_cons_zero, List.set_cons_succ]
                    refine wpAnyH_take (i := 31) (v := undef) (by simp only [List.getElem?_toArray, List.getElem?_cons_zero, List.getElem?_cons_succ]; rfl) (by kernel_rfl) (by kernel_rfl) (by kernel_rfl) (by intro _ _ _ h; exact h) (Or.inr ⟨by rfl, rfl⟩) hHeld ?_
                    try simp only [Act.put, List.setIfInBounds_toArray, List.set_cons_zero, List.set_cons_succ]
                    refine wpAnyH_take (i := 32) (v := undef) (by simp only [List.getElem?_toArray, List.getElem?_cons_zero, List.getElem?_cons_succ]; rfl) (by kernel_rfl) (by kernel_rfl) (by kernel_rfl) (by intro _ _ _ h; exact h) (Or.inr ⟨by rfl, rfl⟩) hHeld ?_
                    try simp only [Act.put, List.setIfInBounds_toArray, List.set_cons_zero, List.set_cons_succ]
                    refine wpAnyH_take (i := 33) (v := ?_) (by simp only [List.getElem?_toArray, List.getElem?_cons_zero, List.getElem?_cons_succ]; rfl) (by kernel_rfl) (by kernel_rfl) (by kernel_rfl) (by intro _ _ _ h; exact h) (Or.inl ⟨by rfl, ?_⟩) hHeld ?_
                    rotate_left
                    · (intro w hSw; (try dsimp only at hSw); go_simp; try with_reducible rfl)
                    try simp only [Act.put, List.setIfInBounds_toArray, List.set_cons_zero, List.set_cons_succ]
                    refine wpAnyH_take (i := 34) (v := ?_) (by simp only [List.getElem?_toArray, List.getElem?_cons_zero, List.getElem?_cons_succ]; rfl) (by kernel_rfl) (by kernel_rfl) (by kernel_rfl) (by intro _ _ _ h; exact h) (Or.inl ⟨by rfl, ?_⟩) hHeld ?_
                    rotate_left
                    · (intro w hSw; (try dsimp only at hSw); go_simp; try with_reducible rfl)
                    try simp only [Act.put, List.setIfInBounds_toArray, List.set_cons_zero, List.set_cons_succ]
                    refine wpAnyH_done (by kernel_rfl) ?_ _
                    clear hHeld
                    go_wp2_with fail
                    go_roundw
                    case rel => exact ⟨q + 1, by omega, by go_num, HB2.out⟩
                    case measure => simp [intOf]; omega
                · obtain rfl : q = t := by omega
                  go_wp2_with fail
                  go_roundw
                  case rel => exact ⟨k + 1, by omega, by go_num, HB.out⟩
                  case measure => simp [intOf]; omega
            · obtain rfl : k = K := by omega
              have HF4 : Hid (FlatsS 75 40 73 (fun k => mkF k) w wr base k (fun j => .slice (A j) (n j) (c j)) n H n 0 G) := Lib.hid (HFL.out.go HB.out).reset
              clear HFL HB
              obtain ⟨K, hKk⟩ : ∃ K, K = k := ⟨_, rfl⟩
              subst hKk
              go_wp2_with fail
              go_loopw [11] (fun i wr => ∃ (k : Nat) (G : Nat → Value), k ≤ K ∧ i = .int .i64 k ∧ FlatsS 75 40 73 (fun k => mkF k) w wr base K (fun j => .slice (A j) (n j) (c j)) n H n k G) (fun i _ => K - (intOf i).toNat)
              case atStart => exact ⟨0, _, Nat.zero_le _, rfl, HF4.out⟩
              case round =>
                clear HF4
                obtain ⟨k, G, hk, rfl, hfl⟩ := hrel
                have HFL := Lib.hid hfl
                clear hfl
                by_cases hlt : k < K
                · obtain ⟨a, ha⟩ : ∃ a, a = A k := ⟨_, rfl⟩
                  obtain ⟨m, hm⟩ : ∃ a, a = n k := ⟨_, rfl⟩
                  obtain ⟨d, hd⟩ : ∃ a, a = c k := ⟨_, rfl⟩
                  have hm9 := HN.out k hlt
                  rw [← hm] at hm9
                  have HE := Lib.hid (And.intro ha (And.intro hm hd))
                  clear ha hm hd
                  have i1 : (0 : Int) ≤ k := by omega
                  have i2 : (k : Int) < K := by omega
                  have HNE : Hid (¬ (Value.slice a m d).ownBlock = some sl) := Lib.hid fun e => HF.out ⟨k, hlt, by show (Value.slice (A k) (n k) (c k)).ownBlock = some sl; rw [← HE.out.1, ← HE.out.2.1, ← HE.out.2.2]; exact e⟩
                  have C0 := Lib.hid (ls_cellP HLS.out HFL.out.kept HF.out hlt)
                  have HRO := Lib.hid (HFL.out.rows k hlt)
                  rw [← HE.out.1, ← HE.out.2.1, ← HE.out.2.2] at C0 HRO
                  have HGS := Lib.hid HFL.out.gs
                  have HGN : Hid (∀ x, (Value.slice (some ⟨H, 0, none⟩) K K).ownBlock = some x → ¬ (Value.slice a m d).ownBlock = some x) := Lib.hid fun x hx hx2 => rows_neS HRO.out HGS.out (by decide) x hx2 hx
                  have hbz : base ≤ wr.heap.size := Nat.le_trans hbase HFL.out.kept.size
                  obtain ⟨wo, hwo⟩ : ∃ wo, wo = wr := ⟨_, rfl⟩
                  subst hwo
                  go_wp2_with (at_make; refine wpList_make_full _ rfl _ _ 40 rfl wo.heap.size 75 iB (.agg zIt.toArray) 73 Tryz.underlying40 hB0 hB1 hB2 _ _ _ _ 64 rfl rfl (by rfl) (by rfl) (by rw [hB3]; omega) (by unfold maxLen; omega) (Nat.le_refl _) ?_; intro w6 hown6 hg6)
                  rw [madeP] at hown6
                  have HM6 : Hid (RowAtS 75 73 (fun k => mkF k) w6 wo.heap.size (.slice (some ⟨wo.heap.size, 0, none⟩) 64 64) 64 (k + K) 0) := Lib.hid ⟨zeroP, zeroP_wide, zeroP_one, fun i hi => absurd hi (by omega), hown6⟩
                  have HK6 : Hid (Keeps (fun _ => False) wo w6) := Lib.hid (Keeps.grown hg6 fun _ e => by cases e)
                  clear hown6 hg6
                  go_wp2_with fail
                  go_loopw [13] (fun i wi => ∃ q : Nat, q ≤ 64 ∧ i = .int .i64 q ∧ RowAtS 75 73 (fun k => mkF k) wi wo.heap.size (.slice (some ⟨wo.heap.size, 0, none⟩) 64 64) 64 (k + K) q ∧ Keeps (fun _ => False) wo wi) (fun i _ => 64 - (intOf i).toNat)
                  case atStart => exact ⟨0, Nat.zero_le _, rfl, HM6.out, HK6.out⟩
                  case round =>
                    clear HM6 HK6
                    obtain ⟨q, hq, rfl, hra, hkp⟩ := hrel
                    have HRA := Lib.hid hra
                    have HKP := Lib.hid hkp
                    by_cases hql : q < 64
                    · obtain ⟨z, hz⟩ : ∃ z : Nat, (k : Int) + K = z := ⟨k + K, by omega⟩
                      have HZ : Hid (z = k + K) := Lib.hid (by omega)
                      have hz9 : z ≤ 2000 := by omega
                      have j1 : (0 : Int) ≤ q := by omega
                      have j2 : (q : Int) < 64 := by omega
                      clear hra hkp
                      go_wp2_with fail
                      refine (markIt z q _ (by omega) (by omega)).mono ?_
                      rintro e w2 ⟨rfl, hbm⟩
                      have HRA2 := Lib.hid (HRA.out.keeps (Keeps.fresh (S := fun _ => False) hbm) fun _ _ h => h)
                      have HKP2 := Lib.hid (HKP.out.trans (Keeps.fresh (S := fun _ => False) hbm) fun _ _ h => h)
                      clear hbm
                      obtain ⟨F0, _, _, _, ho⟩ := HRA2.out
                      obtain ⟨cur, hcur, hcl⟩ := row_blk ho
                      have HCUR := Lib.hid hcur
                      have HO := Lib.hid (HONE.out z q)
                      clear ho hcur
                      go_wp2_with (refine wpList_store_segK rfl 75 (.tmp 142) (.tmp 141) rfl wo.heap.size (q * 73) rfl (mkF z q) rfl cur 75 HCUR.out (by rw [show (mkF z q).length = 73 from lenIt _]; exact HSZ9) (by rw [show (mkF z q).length = 73 from lenIt _]; omega) HO.out rfl ?_; intro w3 hw3 hk3 hs3; have HS := Lib.hid (HRA2.out.store marksP hql HCUR.out (by rw [List.toList_toArray, ← HZ.out]; exact hw3)); have HST := Lib.hid (HKP2.out.trans hk3 fun i hi e => by omega); clear hw3 hk3 hs3)
                      go_roundw
                      case rel => exact ⟨q + 1, by omega, by go_num, HS.out, HST.out⟩
                      case measure => simp [intOf]; omega
                    · obtain rfl : q = 64 := by omega
                      obtain ⟨F, hFw, hf1, _, ho⟩ := hra
                      have c0 := hkp.cell C0.out (fun h => h)
                      have hj := flatS_join (mkF k) F m 64
                      have hl64 := flatS_len hFw 64
                      have hf64 : ∀ u ∈ flatS F 64, u.oneCell' = true := flatS_one fun j _ => hf1 j
                      have hn64 := row_news hFw ho
                      have hwj : Wide 73 (fun i => if i < m then mkF k i else F (i - m)) := fun i => by
                        show (if i < m then mkF k i else F (i - m)).length = 73
                        split
                        · exact lenIt _
                        · exact hFw _
                      have hmj : ∀ i, i < m → (fun i => if i < m then mkF k i else F (i - m)) i = mkF k i := fun i hi => if_pos hi
                      obtain ⟨news, hnews⟩ : ∃ news, news = flatS F 64 := ⟨_, rfl⟩
                      rw [← hnews] at hj hl64 hf64 hn64
                      obtain ⟨F2, hF2⟩ : ∃ F2, F2 = (fun i => if i < m then mkF k i else F (i - m)) := ⟨_, rfl⟩
                      rw [← hF2] at hj hwj hmj
                      obtain ⟨olds, holds⟩ : ∃ olds, olds = flatS (mkF k) m := ⟨_, rfl⟩
                      rw [← holds] at hj
                      have HJ := Lib.hid hj
                      have HFL64 := Lib.hid hl64
                      have HF1 := Lib.hid hf64
                      have HNW := Lib.hid hn64
                      have HWJ := Lib.hid hwj
                      have HMJ := Lib.hid hmj
                      have HOLDS := Lib.hid holds
                      have HRW := Lib.hid (hkp.row HRO.out fun _ _ h => h)
                      rw [← holds] at HRW
                      have hgs := hkp.row HGS.out fun _ _ h => h
                      have HGW := Lib.hid hgs
                      have hzz := hkp.size
                      have HML : Hid (olds.length = m * 73) := Lib.hid (by rw [holds]; exact flatS_len (wideM k) m)
                      clear hkp ho hf1 hgs hFw hj hl64 hf64 hn64 hwj hmj hnews hF2 holds
                      by_cases hfit : m + 64 ≤ d
                      · obtain ⟨g, rfl⟩ : ∃ g, a = some ⟨g, 0, none⟩ := row_someS HRW.out (by omega)
                        go_wp2_with (at_builtin; refine wpList_append_fits _ rfl (.tmp 148) (.tmp 149) 40 rfl base 75 iB 73 Tryz.underlying40 hB0 hB2 g m d _ rfl HRW.out ⟨wo.heap.size, 0, none⟩ 64 64 news rfl HFL64.out HNW.out HF1.out (by omega) ?_; intro w7 hown7 hg7; have HK7 : Hid (Keeps (fun x => (Value.slice (some ⟨g, 0, none⟩) m d).ownBlock = some x) wr w7) := Lib.hid (Keeps.grown hg7 fun _ e => e); have HOL := Lib.hid (row_prefixS hown7 HML.out); rw [HJ.out] at hown7; have HW7 := Lib.hid hown7; have hgs7 := HK7.out.row HGW.out HGN.out; have hck := row_cellP hgs7 hlt; have hfk := hgs7.frozenAt k; obtain ⟨u, hu⟩ : ∃ u, w7.cell? ⟨H, k, none⟩ = some u := ⟨_, hck⟩; clear hown7 hg7 hgs7 hck c0)
                        go_roundw
                        case rel =>
                          refine ⟨k + 1, _, by omega, by go_num, HFL.out.done (by decide) HD.out hlt (w' := w7) (gv := .slice (some ⟨g, 0, none⟩) (m + 64) d) ?_ ?_ ?_ ?_⟩
                          · rw [← HE.out.1, ← HE.out.2.1, ← HE.out.2.2]; exact (HKP.out.mono fun _ _ h => h.elim).trans HK7.out fun _ _ h => h
                          · rw [← HE.out.1, ← HE.out.2.1, ← HE.out.2.2]; rw [← HOLDS.out]; exact HOL.out
                          · rw [← HE.out.2.1]; exact ⟨F2, HWJ.out, HW7.out, HMJ.out⟩
                          · intro b hb
                            rw [← HE.out.1, ← HE.out.2.1, ← HE.out.2.2]; exact .inl hb
                        case measure => simp [intOf]; omega
                      · have HRC : Hid (∀ b, a = some b → ∀ j u, olds[j]? = some u → wr.cell? (b.add j) = some u) := Lib.hid fun b hb j u hu => by
                          have hrw := HRW.out
                          rw [HOLDS.out] at hrw hu
                          obtain ⟨A', c', e, ha, -⟩ := srow_arr (wideM k) hrw
                          injection e with e1
                          exact ha.cellsAt (wideM k) b (e1 ▸ hb) j u hu
                        go_wp2_with (at_builtin; refine wpList_append_grows _ rfl (.tmp 148) (.tmp 149) 40 rfl 75 iB (.agg zIt.toArray) 73 136 Tryz.underlying40 hB0 hB1 hB2 hB3 rfl (by omega) a m d olds rfl (row_nilS HRW.out) HML.out HRC.out ⟨wo.heap.size, 0, none⟩ 64 64 news rfl HFL64.out HNW.out HF1.out (by omega) (by unfold maxLen; omega) (by omega) ?_; intro gv w7 hown7 hg7; have HK7 : Hid (Keeps (fun _ => False) wr w7) := Lib.hid (Keeps.grown hg7 fun _ e => by cases e); have HOL := Lib.hid (HK7.out.row HRW.out fun _ _ h => h); rw [HJ.out] at hown7; have HW7 := Lib.hid hown7; obtain ⟨A2, cap2, hsh⟩ := row_shapeS hown7; subst hsh; have hgs7 := HK7.out.row HGW.out (fun _ _ h => h); have hck := row_cellP hgs7 hlt; have hfk := hgs7.frozenAt k; obtain ⟨u, hu⟩ : ∃ u, w7.cell? ⟨H, k, none⟩ = some u := ⟨_, hck⟩; clear hown7 hg7 hgs7 hck c0)
                        go_roundw
                        case rel =>
                          refine ⟨k + 1, _, by omega, by go_num, HFL.out.done (by decide) HD.out hlt (w' := w7) (gv := .slice A2 (m + 64) cap2) ?_ ?_ ?_ ?_⟩
                          · exact ((HKP.out.trans HK7.out fun _ _ h => h).mono fun _ _ h => h.elim)
                          · rw [← HE.out.1, ← HE.out.2.1, ← HE.out.2.2]; rw [← HOLDS.out]; exact HOL.out
                          · rw [← HE.out.2.1]; exact ⟨F2, HWJ.out, row_more HW7.out (Nat.le_trans hbz hzz), HMJ.out⟩
                          · exact fun b hb => .inr (Nat.le_trans hzz (row_lt HW7.out hb).1)
                        case measure => simp [intOf]; omega
                · obtain rfl : k = K := by omega
                  obtain ⟨wp, hwp⟩ : ∃ wp, wp = wr := ⟨_, rfl⟩
                  subst hwp
                  obtain ⟨K, hKk⟩ : ∃ K, K = k := ⟨_, rfl⟩
                  subst hKk
                  go_wp2_with fail
                  go_loopw [14] (fun i wr => ∃ k : Nat, k ≤ K ∧ i = .int .i64 k ∧ Below wp.heap.size wp wr) (fun i _ => K - (intOf i).toNat)
                  case atStart => exact ⟨0, Nat.zero_le _, rfl, Below.refl _ _⟩
                  case round =>
                    obtain ⟨k, hk, rfl, hbw⟩ := hrel
                    have HB := Lib.hid hbw
                    clear hbw
                    by_cases hlt : k < K
                    · obtain ⟨a, ha⟩ : ∃ a, a = A k := ⟨_, rfl⟩
                      obtain ⟨m, hm⟩ : ∃ a, a = n k := ⟨_, rfl⟩
                      obtain ⟨d, hd⟩ : ∃ a, a = c k := ⟨_, rfl⟩
                      have hm9 := HN.out k hlt
                      rw [← hm] at hm9
                      have HE := Lib.hid (And.intro ha (And.intro hm hd))
                      clear ha hm hd
                      have i1 : (0 : Int) ≤ k := by omega
                      have i2 : (k : Int) < K := by omega
                      have c0 := ls_cellP HLS.out HFL.out.kept HF.out hlt
                      have c1 := row_cellP HFL.out.gs hlt
                      have hro := HFL.out.rows k hlt
                      rw [← HE.out.1, ← HE.out.2.1, ← HE.out.2.2] at c0 hro
                      obtain ⟨⟨F, hFw, hgo, hgf⟩, _⟩ := HFL.out.grown k hlt
                      rw [← HE.out.2.1] at hgo hgf
                      obtain ⟨A2, cap2, hgv, hga, _⟩ := srow_arr hFw hgo
                      rw [hgv] at c1
                      have HGA := Lib.hid hga
                      have HGF := Lib.hid hgf
                      obtain ⟨A3, cap3, hrv, hra, _⟩ := srow_arr (wideM k) hro
                      injection hrv with e1
                      subst e1
                      have HRA := Lib.hid hra
                      obtain ⟨t, ht⟩ : ∃ t, t = m + 64 := ⟨_, rfl⟩
                      rw [← ht] at c1
                      have HT := Lib.hid ht
                      have ht9 : m < t := by omega
                      have C0 : Hid (∀ wi, Below wp.heap.size wp wi → wi.cell? ⟨sl, k, none⟩ = some (.slice a m d) ∧ wi.cell? ⟨H, k, none⟩ = some (.slice A2 t cap2)) := Lib.hid fun wi hb => ⟨(hb.cell (p := ⟨sl, k, none⟩) (World.block_lt_of_cell? wp _ c0)).trans c0, (hb.cell (p := ⟨H, k, none⟩) (World.block_lt_of_cell? wp _ c1)).trans c1⟩
                      obtain ⟨c0, c1⟩ := C0.out wr HB.out
                      clear hgo hgf hgv hga hro hra ht
                      go_wp2_with fail
                      go_loopw [15] (fun i wi => ∃ q : Nat, q ≤ m ∧ i = .int .i64 q ∧ Below wp.heap.size wp wi) (fun i _ => m - (intOf i).toNat)
                      case atStart => exact ⟨0, Nat.zero_le _, rfl, HB.out⟩
                      case round =>
                        clear c0 c1 HB
                        obtain ⟨q, hq, rfl, hbw⟩ := hrel
                        have HB := Lib.hid hbw
                        clear hbw
                        obtain ⟨c0, c1⟩ := C0.out wr HB.out
                        by_cases hqm : q < m
                        · obtain ⟨b2, off2, rfl, hb2, hc2⟩ := HGA.out (by omega)
                          obtain ⟨b3, off3, rfl, hb3, hc3⟩ := HRA.out (by omega)
                          have j1 : (0 : Int) ≤ q := by omega
                          have j2 : (q : Int) < t := by omega
                          have j3 : (q : Int) < m := by omega
                          obtain ⟨cs, hx⟩ : ∃ x, x = mkF k q := ⟨_, rfl⟩
                          have HX : Hid (cs = cellsIt (mkIt k q)) := Lib.hid hx
                          have HSZ : Hid ((Tryz.prog.info? 75).map (·.size) = some cs.length) := Lib.hid (by rw [HX.out]; exact sizeFIt _)
                          have HEQ : Hid (∀ W, EqRun Tryz.prog 75 cs.toArray cs.toArray W true) := Lib.hid fun W => by rw [HX.out]; exact eqrIt _ W
                          have SS : Hid (∀ wi, Below wp.heap.size wp wi → wi.cell? ⟨sl, k, none⟩ = some (.slice (some ⟨b3, off3, none⟩) m d) ∧ wi.cell? ⟨H, k, none⟩ = some (.slice (some ⟨b2, off2, none⟩) t cap2) ∧ wi.rangeAt b2 (off2 + q * 73) cs ∧ wi.rangeAt b3 (off3 + q * 73) cs) := Lib.hid fun wi hb => by
                            have h := hc3 q hqm
                            have h2 := hc2 q (by have := HT.out; omega)
                            rw [HGF.out q hqm] at h2
                            rw [show mkF k q = cs from HX.out.symm] at h2
                            change wp.rangeAt _ _ (mkF k q) at h
                            rw [show mkF k q = cs from HX.out.symm] at h
                            exact ⟨(C0.out wi hb).1, (C0.out wi hb).2, rangeLow h2 hb hb2, rangeLow h hb hb3⟩
                          clear hc2 hc3 hx
                          go_wp2_with fail
                          refine wp_region_held_drew (S := fun wi => wi.cell? ⟨sl, k, none⟩ = some (.slice (some ⟨b3, off3, none⟩) m d) ∧ wi.cell? ⟨H, k, none⟩ = some (.slice (some ⟨b2, off2, none⟩) t cap2) ∧ wi.rangeAt b2 (off2 + q * 73) cs ∧ wi.rangeAt b3 (off3 + q * 73) cs) (by kernel_rfl) (SS.out _ (below_drewN HB.out 1)) (fun hHeld => ?_)
                          clear c0 c1
                          refine wpAnyH_take (i := 0) (v := ?_) (by simp only [List.getElem?_toArray, List.getElem?_cons_zero]; rfl) (by kernel_rfl) (by kernel_rfl) (by kernel_rfl) (by intro _ _ _ h; exact h) (Or.inl ⟨by rfl, ?_⟩) hHeld ?_
                          rotate_left
                          · (intro w hSw; (try dsimp only at hSw); go_simp; try with_reducible rfl)
                          try simp only [Act.put, List.setIfInBounds_toArray, List.set_cons_zero, List.set_cons_succ]
                          refine wpAnyH_take (i := 1) (v := ?_) (by simp only [List.getElem?_toArray, List.getElem?_cons_zero, List.getElem?_cons_succ]; rfl) (by kernel_rfl) (by kernel_rfl) (by kernel_rfl) (by intro _ _ _ h; exact h) (Or.inl ⟨by rfl, ?_⟩) hHeld ?_
                          rotate_left
                          · (intro w hSw; (try dsimp only at hSw); go_simp; try with_reducible rfl)
                          try simp only [Act.put, List.setIfInBounds_toArray, List.set_cons_zero, List.set_cons_succ]
                          refine wpAnyH_take (i := 2) (v := ?_) (by simp only [List.getElem?_toArray, List.getElem?_cons_zero, List.getElem?_cons_succ]; rfl) (by kernel_rfl) (by kernel_rfl) (by kernel_rfl) (by intro _ _ _ h; exact h) (Or.inl ⟨by rfl, ?_⟩) hHeld ?_
                          rotate_left
                          · (intro w hSw; (try dsimp only at hSw); go_simp; try with_reducible rfl)
                          try simp only [Act.put, List.setIfInBounds_toArray, List.set_cons_zero, List.set_cons_succ]
                          refine wpAnyH_take (i := 3) (v := ?_) (by simp only [List.getElem?_toArray, List.getElem?_cons_zero, List.getElem?_cons_succ]; rfl) (by kernel_rfl) (by kernel_rfl) (by kernel_rfl) (by intro _ _ _ h; exact h) (Or.inl ⟨by rfl, ?_⟩) hHeld ?_
                          rotate_left
                          · (intro w hSw; (try dsimp only at hSw); go_simp; try with_reducible rfl)
                          try simp only [Act.put, List.setIfInBounds_toArray, List.set_cons_zero, List.set_cons_succ]
                          refine wpAnyH_take (i := 4) (v := ?_) (by simp only [List.getElem?_toArray, List.getElem?_cons_zero, List.getElem?_cons_succ]; rfl) (by kernel_rfl) (by kernel_rfl) (by kernel_rfl) (by intro _ _ _ h; exact h) (Or.inl ⟨by rfl, ?_⟩) hHeld ?_
                          rotate_left
                          · (intro w hSw; (try dsimp only at hSw); go_simp; try with_reducible rfl)
                          try simp only [Act.put, List.setIfInBounds_toArray, List.set_cons_zero, List.set_cons_succ]
                          refine wpAnyH_take (i := 5) (v := ?_) (by simp only [List.getElem?_toArray, List.getElem?_cons_zero, List.getElem?_cons_succ]; rfl) (by kernel_rfl) (by kernel_rfl) (by kernel_rfl) (by intro _ _ _ h; exact h) (Or.inl ⟨by rfl, ?_⟩) hHeld ?_
                          rotate_left
                          · (intro w hSw; (try dsimp only at hSw); go_simp; try with_reducible rfl)
                          try simp only [Act.put, List.setIfInBounds_toArray, List.set_cons_zero, List.set_cons_succ]
                          refine wpAnyH_take (i := 6) (v := _) (by simp only [List.getElem?_toArray, List.getElem?_cons_zero, List.getElem?_cons_succ]; rfl) (by kernel_rfl) (by kernel_rfl) (by kernel_rfl) (by intro _ _ _ h; exact h) (yieldsIf_load_mid (by rfl) 75 (.tmp 172) rfl b3 (off3 + q * 73) rfl cs _ (fun _ h => h.2.2.2) Tryz.underlying75 rfl HSZ.out) hHeld ?_
                          try simp only [Act.put, List.setIfInBounds_toArray, List.set_cons_zero, List.set_cons_succ]
                          refine wpAnyH_take (i := 7) (v := ?_) (by simp only [List.getElem?_toArray, List.getElem?_cons_zero, List.getElem?_cons_succ]; rfl) (by kernel_rfl) (by kernel_rfl) (by kernel_rfl) (by intro _ _ _ h; exact h) (Or.inl ⟨by rfl, ?_⟩) hHeld ?_
                          rotate_left
                          · (intro w hSw; (try dsimp only at hSw); go_simp; try with_reducible rfl)
                          try simp only [Act.put, List.setIfInBounds_toArray, List.set_cons_zero, List.set_cons_succ]
                          refine wpAnyH_take (i := 8) (v := ?_) (by simp only [List.getElem?_toArray, List.getElem?_cons_zero, List.getElem?_cons_succ]; rfl) (by kernel_rfl) (by kernel_rfl) (by kernel_rfl) (by intro _ _ _ h; exact h) (Or.inl ⟨by rfl, ?_⟩) hHeld ?_
                          rotate_left
                          · (intro w hSw; (try dsimp only at hSw); go_simp; try with_reducible rfl)
                          try simp only [Act.put, List.setIfInBounds_toArray, List.set_cons_zero, List.set_cons_succ]
                          refine wpAnyH_ready (rs := [9]) (by kernel_rfl) (by simp) ?_
                          refine AllReadyH.cons (by simp only [List.getElem?_toArray, List.getElem?_cons_zero, List.getElem?_cons_succ]; rfl) (fun K hK => ?_) AllReadyH.nil
                          rw [if_pos (by rfl)]
                          go_simp
                          refine (markIt k q _ (by omega) (by omega)).mono ?_
                          rw [← HX.out]
                          rintro e w2 ⟨rfl, hbm⟩
                          have HB2 := Lib.hid ((below_drewN HB.out 1).trans (hbm.mono (below_drewN HB.out 1).size))
                          clear hbm
                          refine hK.out _ _ (SS.out _ HB2.out) (fun hHeld => ?_)
                          clear hK
                          try simp only [Act.put, List.setIfInBounds_toArray, List.set_cons_zero, List.set_cons_succ]
                          refine wpAnyH_take (i := 10) (v := _) (by simp only [List.getElem?_toArray, List.getElem?_cons_zero, List.getElem?_cons_succ]; rfl) (by kernel_rfl) (by kernel_rfl) (by kernel_rfl) (by intro _ _ _ h; exact h) (yields_eql (by rfl) 75 (.tmp 173) (.tmp 176) rfl cs.toArray cs.toArray rfl rfl true eqgIt (fun W => HEQ.out W)) hHeld ?_
                          try simp only [Act.put, List.setIfInBounds_toArray, List.set_cons_zero, List.set_cons_succ]
                          refine wpAnyH_take (i := 11) (v := ?_) (by simp only [List.getElem?_toArray, List.getElem?_cons_zero, List.getElem?_cons_succ]; rfl) (by kernel_rfl) (by kernel_rfl) (by kernel_rfl) (by intro _ _ _ h; exact h) (Or.inl ⟨by rfl, ?_⟩) hHeld ?_
                          rotate_left
                          · (intro w hSw; (try dsimp only at hSw); go_simp; try with_reducible rfl)
                          try simp only [Act.put, List.setIfInBounds_toArray, List.set_cons_zero, List.set_cons_succ]
                          refine wpAnyH_take (i := 12) (v := ?_) (by simp only [List.getElem?_toArray, List.getElem?_cons_zero, List.getElem?_cons_succ]; rfl) (by kernel_rfl) (by kernel_rfl) (by kernel_rfl) (by intro _ _ _ h; exact h) (Or.inl ⟨by rfl, ?_⟩) hHeld ?_
                          rotate_left
                          · (intro w hSw; (try dsimp only at hSw); go_simp; try with_reducible rfl)
                          try simp only [Act.put, List.setIfInBounds_toArray, List.set_cons_zero, List.set_cons_succ]
                          refine wpAnyH_take (i := 13) (v := ?_) (by simp only [List.getElem?_toArray, List.getElem?_cons_zero, List.getElem?_cons_succ]; rfl) (by kernel_rfl) (by kernel_rfl) (by kernel_rfl) (by intro _ _ _ h; exact h) (Or.inl ⟨by rfl, ?_⟩) hHeld ?_
                          rotate_left
                          · (intro w hSw; (try dsimp only at hSw); go_simp; try with_reducible rfl)
                          try simp only [Act.put, List.setIfInBounds_toArray, List.set_cons_zero, List.set_cons_succ]
                          refine wpAnyH_take (i := 14) (v := ?_) (by simp only [List.getElem?_toArray, List.getElem?_cons_zero, List.getElem?_cons_succ]; rfl) (by kernel_rfl) (by kernel_rfl) (by kernel_rfl) (by intro _ _ _ h; exact h) (Or.inl ⟨by rfl, ?_⟩) hHeld ?_
                          rotate_left
                          · (intro w hSw; (try dsimp only at hSw); go_simp; try with_reducible rfl)
                          try simp only [Act.put, List.setIfInBounds_toArray, List.set_cons_zero, List.set_cons_succ]
                          refine wpAnyH_take (i := 15) (v := ?_) (by simp only [List.getElem?_toArray, List.getElem?_cons_zero, List.getElem?_cons_succ]; rfl) (by kernel_rfl) (by kernel_rfl) (by kernel_rfl) (by intro _ _ _ h; exact h) (Or.inl ⟨by rfl, ?_⟩) hHeld ?_
                          rotate_left
                          · (intro w hSw; (try dsimp only at hSw); go_simp; try with_reducible rfl)
                          try simp only [Act.put, List.setIfInBounds_toArray, List.set_cons_zero, List.set_cons_succ]
                          refine wpAnyH_take (i := 16) (v := ?_) (by simp only [List.getElem?_toArray, List.getElem?_cons_zero, List.getElem?_cons_succ]; rfl) (by kernel_rfl) (by kernel_rfl) (by kernel_rfl) (by intro _ _ _ h; exact h) (Or.inl ⟨by rfl, ?_⟩) hHeld ?_
                          rotate_left
                          · (intro w hSw; (try dsimp only at hSw); go_simp; try with_reducible rfl)
                          try simp only [Act.put, List.setIfInBounds_toArray, List.set_cons_zero, List.set_cons_succ]
                          refine wpAnyH_take (i := 17) (v := ?_) (by simp only [List.getElem?_toArray, List.getElem?_cons_zero, List.getElem?_cons_succ]; rfl) (by kernel_rfl) (by kernel_rfl) (by kernel_rfl) (by intro _ _ _ h; exact h) (Or.inl ⟨by rfl, ?_⟩) hHeld ?_
                          rotate_left
                          · (intro w hSw; (try dsimp only at hSw); go_simp; try with_reducible rfl)
                          try simp only [Act.put, List.setIfInBounds_toArray, List.set_cons_zero, List.set_cons_succ]
                          refine wpAnyH_take (i := 18) (v := ?_) (by simp only [List.getElem?_toArray, List.getElem?_cons_zero, List.getElem?_cons_succ]; rfl) (by kernel_rfl) (by kernel_rfl) (by kernel_rfl) (by intro _ _ _ h; exact h) (Or.inl ⟨by rfl, ?_⟩) hHeld ?_
                          rotate_left
                          · (intro w hSw; (try dsimp only at hSw); go_simp; try with_reducible rfl)
                          try simp only [Act.put, List.setIfInBounds_toArray, List.set_cons_zero, List.set_cons_succ]
                          refine wpAnyH_take (i := 19) (v := _) (by simp only [List.getElem?_toArray, List.getElem?_cons_zero, List.getElem?_cons_succ]; rfl) (by kernel_rfl) (by kernel_rfl) (by kernel_rfl) (by intro _ _ _ h; exact h) (yieldsIf_load_mid (by rfl) 75 (.tmp 185) rfl b2 (off2 + q * 73) rfl cs _ (fun _ h => h.2.2.1) Tryz.underlying75 rfl HSZ.out) hHeld ?_
                          try simp only [Act.put, List.setIfInBounds_toArray, List.set_cons_zero, List.set_cons_succ]
                          refine wpAnyH_take (i := 20) (v := ?_) (by simp only [List.getElem?_toArray, List.getElem?_cons_zero, List.getElem?_cons_succ]; rfl) (by kernel_rfl) (by kernel_rfl) (by kernel_rfl) (by intro _ _ _ h; exact h) (Or.inl ⟨by rfl, ?_⟩) hHeld ?_
                          rotate_left
                          · (intro w hSw; (try dsimp only at hSw); go_simp; try with_reducible rfl)
                          try simp only [Act.put, List.setIfInBounds_toArray, List.set_cons_zero, List.set_cons_succ]
                          refine wpAnyH_take (i := 21) (v := ?_) (by simp only [List.getElem?_toArray, List.getElem?_cons_zero, List.getElem?_cons_succ]; rfl) (by kernel_rfl) (by kernel_rfl) (by kernel_rfl) (by intro _ _ _ h; exact h) (Or.inl ⟨by rfl, ?_⟩) hHeld ?_
                          rotate_left
                          · (intro w hSw; (try dsimp only at hSw); go_simp; try with_reducible rfl)
                          try simp only [Act.put, List.setIfInBounds_toArray, List.set_cons_zero, List.set_cons_succ]
                          refine wpAnyH_ready (rs := [22]) (by kernel_rfl) (by simp) ?_
                          refine AllReadyH.cons (by simp only [List.getElem?_toArray, List.getElem?_cons_zero, List.getElem?_cons_succ]; rfl) (fun K hK => ?_) AllReadyH.nil
                          rw [if_pos (by rfl)]
                          go_simp
                          refine (markIt k q _ (by omega) (by omega)).mono ?_
                          rw [← HX.out]
                          rintro e w3 ⟨rfl, hbm⟩
                          have HB3 := Lib.hid (HB2.out.trans (hbm.mono HB2.out.size))
                          clear hbm
                          refine hK.out _ _ (SS.out _ HB3.out) (fun hHeld => ?_)
                          clear hK
                          try simp only [Act.put, List.setIfInBounds_toArray, List.set_cons_zero, List.set_cons_succ]
                          refine wpAnyH_take (i := 23) (v := _) (by simp only [List.getElem?_toArray, List.getElem?_cons_zero, List.getElem?_cons_succ]; rfl) (by kernel_rfl) (by kernel_rfl) (by kernel_rfl) (by intro _ _ _ h; exact h) (yields_eql (by rfl) 75 (.tmp 186) (.tmp 189) rfl cs.toArray cs.toArray rfl rfl true eqgIt (fun W => HEQ.out W)) hHeld ?_
                          try simp only [Act.put, List.setIfInBounds_toArray, List.set_cons_zero, List.set_cons_succ]
                          refine wpAnyH_take (i := 24) (v := ?_) (by simp only [List.getElem?_toArray, List.getElem?_cons_zero, List.getElem?_cons_succ]; rfl) (by kernel_rfl) (by kernel_rfl) (by kernel_rfl) (by intro _ _ _ h; exact h) (Or.inl ⟨by rfl, ?_⟩) hHeld ?_
                          rotate_left
                          · (intro w hSw; (try dsimp only at hSw); go_simp; try with_reducible rfl)
                          try simp only [Act.put, List.setIfInBounds_toArray, List.set_cons_zero, List.set_cons_succ]
                          refine wpAnyH_take (i := 25) (v := ?_) (by simp only [List.getElem?_toArray, List.getElem?_cons_zero, List.getElem?_cons_succ]; rfl) (by kernel_rfl) (by kernel_rfl) (by kernel_rfl) (by intro _ _ _ h; exact h) (Or.inl ⟨by rfl, ?_⟩) hHeld ?_
                          rotate_left
                          · (intro w hSw; (try dsimp only at hSw); go_simp; try with_reducible rfl)
                          try simp only [Act.put, List.setIfInBounds_toArray, List.set_cons_zero, List.set_cons_succ]
                          refine wpAnyH_done (by kernel_rfl) ?_ _
                          clear hHeld
                          go_wp2_with fail
                          go_roundw
                          case rel => exact ⟨q + 1, by omega, by go_num, HB3.out⟩
                          case measure => simp [intOf]; omega
                        · obtain rfl : q = m := by omega
                          go_wp2_with fail
                          go_roundw
                          case rel => exact ⟨k + 1, by omega, by go_num, HB.out⟩
                          case measure => simp [intOf]; omega
                    · obtain rfl : k = K := by omega
                      go_wp2_with fail
                      go_ret
                      exact ⟨rfl, HFL.out.kept.trans (Keeps.fresh (S := FootS k fun j => .slice (A j) (n j) (c j)) HB.out) fun _ _ h => h⟩
end FlIt
end Go.Proofs.YtodhaaaodmcplaaGreat
