/- The kit's flatInts: lists that lie apart are told to lie apart. -/
import Derived.Test.YtodhaaaodmcplaaGreatKfI
import Derived.Deep.RegionHeld3
set_option linter.all false
namespace Go.Proofs.YtodhaaaodmcplaaGreat
open Go.RowKit
theorem infoSI : (Tryz.prog.info? 37).map (fun i => (i.zero, i.size, i.bytes)) = some (some (.slice none 0 0), 1, 24) := by kernel_rfl
theorem ls_cellI {S : Nat → Prop} {w0 w : World} {base sl K cl : Nat} {v : Nat → Value} (h : w0.ownsRow base 37 1 (.slice (some ⟨sl, 0, none⟩) K cl) K ((List.range K).map v)) (hk : Keeps S w0 w) (hS : ¬ S sl) {k : Nat} (hlt : k < K) : w.cell? ⟨sl, k, none⟩ = some (v k) := by
  have h1 := h.cellAt k (by omega)
  rw [List.getElem?_map, List.getElem?_range hlt] at h1
  exact hk.cell h1 hS
theorem row_cellI {w : World} {base K cl sl : Nat} {e : TypeId} {v : Nat → Value} (h : w.ownsRow base e 1 (.slice (some ⟨sl, 0, none⟩) K cl) K ((List.range K).map v)) {k : Nat} (hlt : k < K) : w.cell? ⟨sl, k, none⟩ = some (v k) := by
  have h1 := h.cellAt k (by omega)
  rwa [List.getElem?_map, List.getElem?_range hlt] at h1
theorem own_lenI (A : Option Addr) (n n' c c' : Nat) : (Value.slice A n c).ownBlock = (Value.slice A n' c').ownBlock := by cases A <;> rfl
theorem row_someI {w : World} {base : Nat} {e : TypeId} {size : Nat} {A : Option Addr} {n c : Nat} {xs : List Value} (h : w.ownsRow base e size (.slice A n c) n xs) (hc : 0 < c) : ∃ g, A = some ⟨g, 0, none⟩ := by
  rcases h.2 with ⟨h0, _⟩ | ⟨g, cap, cur, h0, _⟩
  · injection h0 with e1 e2 e3
    omega
  · injection h0 with e1 e2 e3
    exact ⟨g, e1⟩
theorem row_cellsI {w : World} {base : Nat} {e : TypeId} {A : Option Addr} {n c : Nat} {f : Nat → Value} (ho : w.ownsRow base e 1 (.slice A n c) n ((List.range n).map f)) : Arr w w.heap.size A n f := by
  obtain ⟨A', cap, e, ha, _⟩ := row_arr ho
  injection e with e
  rw [e]; exact ha
set_option maxRecDepth 100000 in
set_option maxHeartbeats 8000000 in
theorem flatI (w : World) (base sl cl K : Nat) (A : Nat → Option Addr) (n c : Nat → Nat) (hK : K ≤ 1000) (hn : ∀ j, j < K → n j ≤ 900000000)
    (hls : w.ownsRow base 37 1 (.slice (some ⟨sl, 0, none⟩) K cl) K ((List.range K).map fun j => .slice (A j) (n j) (c j)))
    (hrows : ∀ j, j < K → RowAtI w base (.slice (A j) (n j) (c j)) (n j) j 0) (hd : DistI K fun j => .slice (A j) (n j) (c j)) (hbase : base ≤ w.heap.size) :
    Calls Tryz.prog 45 #[.slice (some ⟨sl, 0, none⟩) K cl] w fun e w' => e = .returned (.bool true) ∧ Keeps (FootI K fun j => .slice (A j) (n j) (c j)) w w' := by
  have HLS := Lib.hid hls
  have HD := Lib.hid hd
  have HN := Lib.hid hn
  have HVL : Hid (∀ j, j < K → ∀ b, (Value.slice (A j) (n j) (c j)).ownBlock = some b → b < w.heap.size) := Lib.hid fun j hj b hb => by
    obtain ⟨f, _, _, ho⟩ := hrows j hj
    exact (row_lt ho hb).2
  have HF : Hid (¬ FootI K (fun j => .slice (A j) (n j) (c j)) sl) := Lib.hid (by
    rintro ⟨j, hj, hb⟩
    obtain ⟨f, _, _, ho⟩ := hrows j hj
    exact rows_neI ho hls (by decide) sl hb rfl)
  have HM : Hid (MarkI w w base K (fun j => .slice (A j) (n j) (c j)) n 0 0) := Lib.hid ⟨Keeps.refl _ _, fun j hj => by
    have : progI n 0 0 j = 0 := by simp [progI]
    rw [this]; exact hrows j hj⟩
  clear hls hd hn hrows
  obtain ⟨iB, hB0, hB1, hB2, hB3⟩ := infoParts infoI
  obtain ⟨iS, hS0, hS1, hS2, hS3⟩ := infoParts infoSI
  go_enter Tryz.func45, Tryz.ntmps45
  go_wp2_with fail
  go_loopw [3] (fun i wr => ∃ k : Nat, k ≤ K ∧ i = .int .i64 k ∧ MarkI w wr base K (fun j => .slice (A j) (n j) (c j)) n k 0) (fun i _ => K - (intOf i).toNat)
  case atStart => exact ⟨0, Nat.zero_le _, rfl, HM.out⟩
  case round =>
    clear HM
    obtain ⟨k, hk, rfl, hm⟩ := hrel
    have HM := Lib.hid hm
    clear hm
    by_cases hlt : k < K
    · obtain ⟨a, ha⟩ : ∃ a, a = A k := ⟨_, rfl⟩
      obtain ⟨m, hm⟩ : ∃ a, a = n k := ⟨_, rfl⟩
      obtain ⟨d, hd⟩ : ∃ a, a = c k := ⟨_, rfl⟩
      have hm9 := HN.out k hlt
      rw [← hm] at hm9
      have HE := Lib.hid (And.intro ha (And.intro hm hd))
      clear ha hm hd
      have i1 : (0 : Int) ≤ k := by omega
      have i2 : (k : Int) < K := by omega
      have c0 := ls_cellI HLS.out HM.out.kept HF.out hlt
      rw [← HE.out.1, ← HE.out.2.1, ← HE.out.2.2] at c0
      obtain ⟨wo, hwo⟩ : ∃ wo, wo = wr := ⟨_, rfl⟩
      subst hwo
      go_wp2_with fail
      go_loopw [4] (fun i wi => ∃ q : Nat, q ≤ m ∧ i = .int .i64 q ∧ MarkI w wi base K (fun j => .slice (A j) (n j) (c j)) n k q) (fun i _ => m - (intOf i).toNat)
      case atStart => exact ⟨0, Nat.zero_le _, rfl, HM.out⟩
      case round =>
        clear c0 HM
        obtain ⟨q, hq, rfl, hm⟩ := hrel
        have HM := Lib.hid hm
        have c0 := ls_cellI HLS.out hm.kept HF.out hlt
        rw [← HE.out.1, ← HE.out.2.1, ← HE.out.2.2] at c0
        by_cases hql : q < m
        · obtain ⟨f, _, _, ho⟩ := hm.rows k hlt
          rw [← HE.out.1, ← HE.out.2.1, ← HE.out.2.2] at ho
          obtain ⟨g, cap, e0, _, _⟩ := ho.form (by omega)
          injection e0 with e1 e2 e3
          subst e1
          have hcq := ho.cellAt q (by omega)
          have hfq := ho.frozenAt q
          rw [List.getElem?_map, List.getElem?_range hql] at hcq
          obtain ⟨u, hu⟩ : ∃ u, wr.cell? ⟨g, q, none⟩ = some u := ⟨_, hcq⟩
          have HS := Lib.hid (hm.store HD.out hlt (g := g) (m := m) (c := d) (i := q) (by rw [← HE.out.1, ← HE.out.2.1, ← HE.out.2.2]) HE.out.2.1 hql)
          have j1 : (0 : Int) ≤ q := by omega
          have j2 : (q : Int) < m := by omega
          have hx : (wr.setCell ⟨g, q, none⟩ (.int .i64 (mkI k q : Nat))).cell? ⟨sl, k, none⟩ = some (.slice (some ⟨g, 0, none⟩) m d) := by
            rw [World.cell?_setCell_other _ _ _ _ (fun e => by
              injection e with e
              exact HF.out ⟨k, hlt, by show (Value.slice (A k) (n k) (c k)).ownBlock = some sl; rw [← HE.out.1]; exact congrArg some e⟩)]
            exact c0
          clear hm ho hcq e2 e3
          go_wp2_with fail
          go_region_held3 (fun w' => w'.cell? ⟨sl, k, none⟩ = some (.slice (some ⟨g, 0, none⟩) m d)) (go_keep) ((go_at_call 68; refine (markI k q _ (by omega) (by omega)).mono ?_; rintro e w' ⟨rfl, rfl⟩))
          go_wp2_with fail
          go_roundw
          case rel => exact ⟨q + 1, by omega, by go_num, HS.out.drewN 1⟩
          case measure => simp [intOf]; omega
        · obtain rfl : q = m := by omega
          go_wp2_with fail
          go_roundw
          case rel =>
            have h := HM.out
            have e : q = n k := HE.out.2.1
            rw [e] at h
            exact ⟨k + 1, by omega, by go_num, h.next⟩
          case measure => simp [intOf]; omega
    · obtain rfl : k = K := by omega
      have HR : Hid (∀ j, j < k → wr.ownsRow base 3 1 (.slice (A j) (n j) (c j)) (n j) (markRowI j (n j))) := Lib.hid fun j hj => (HM.out.rows j hj).full (by rw [progI_end n hj]; exact Nat.le_refl _)
      have hws := HM.out.kept.size
      obtain ⟨w1, hw1⟩ : ∃ w1, w1 = wr := ⟨_, rfl⟩
      subst hw1
      go_wp2_with (at_make; refine wpList_make_full _ rfl _ _ 47 rfl base 37 iS (.slice none 0 0) 1 Tryz.underlying47 hS0 hS1 hS2 _ _ _ _ k rfl rfl (by rfl) (by rfl) (by rw [hS3]; omega) (by unfold maxLen; omega) (Nat.le_trans hbase hws) ?_; intro w2 hown hg)
      have e0 : (madeCells (Value.slice none 0 0).cells (k * 1)).toList = (List.range k).map fun _ => Value.slice none 0 0 := by
        apply List.ext_getElem (by simp [madeCells])
        intro j h1 h2
        simp [madeCells, Value.cells, Nat.mod_one]
      rw [e0] at hown
      have hgk : Keeps (fun _ => False) w1 w2 := Keeps.grown hg fun _ e => by cases e
      have HFL : Hid (FlatI w w2 base k (fun j => .slice (A j) (n j) (c j)) n w1.heap.size (fun j => n j + 64) 0 (fun _ => .slice none 0 0)) := Lib.hid ⟨HM.out.kept.trans hgk fun _ _ h => h.elim, fun j hj => hgk.row (HR.out j hj) fun _ _ h => h, hown, fun j hj => absurd hj (by omega), hws, fun j hj b hb => Nat.lt_of_lt_of_le (HVL.out j hj b hb) hws⟩
      clear hown hg hgk e0 HM HR HVL hS0 hS1 hS2 hS3
      obtain ⟨H, hH⟩ : ∃ H, H = w1.heap.size := ⟨_, rfl⟩
      rw [← hH] at HFL ⊢
      clear hH hws
      obtain ⟨K, hKk⟩ : ∃ K, K = k := ⟨_, rfl⟩
      subst hKk
      go_wp2_with fail
      go_loopw [6] (fun i wr => ∃ (k : Nat) (G : Nat → Value), k ≤ K ∧ i = .int .i64 k ∧ FlatI w wr base K (fun j => .slice (A j) (n j) (c j)) n H (fun j => n j + 64) k G) (fun i _ => K - (intOf i).toNat)
      case atStart => exact ⟨0, _, Nat.zero_le _, rfl, HFL.out⟩
      case round =>
        clear HFL
        obtain ⟨k, G, hk, rfl, hfl⟩ := hrel
        have HFL := Lib.hid hfl
        clear hfl
        by_cases hlt : k < K
        · obtain ⟨a, ha⟩ : ∃ a, a = A k := ⟨_, rfl⟩
          obtain ⟨m, hm⟩ : ∃ a, a = n k := ⟨_, rfl⟩
          obtain ⟨d, hd⟩ : ∃ a, a = c k := ⟨_, rfl⟩
          have hm9 := HN.out k hlt
          rw [← hm] at hm9
          have HE := Lib.hid (And.intro ha (And.intro hm hd))
          clear ha hm hd
          have i1 : (0 : Int) ≤ k := by omega
          have i2 : (k : Int) < K := by omega
          have HNE : Hid (¬ (Value.slice a m d).ownBlock = some sl) := Lib.hid fun e => HF.out ⟨k, hlt, by show (Value.slice (A k) (n k) (c k)).ownBlock = some sl; rw [← HE.out.1, ← HE.out.2.1, ← HE.out.2.2]; exact e⟩
          have c0 := ls_cellI HLS.out HFL.out.kept HF.out hlt
          rw [← HE.out.1, ← HE.out.2.1, ← HE.out.2.2] at c0
          have C0 := Lib.hid c0
          have HG0 : Hid (GrowI wr wr base a m d k 0 (.slice a m d)) := Lib.hid (by
            have h := HFL.out.rows k hlt
            rw [← HE.out.1, ← HE.out.2.1, ← HE.out.2.2] at h
            exact ⟨Keeps.refl _ _, h, h, .inl rfl⟩)
          have hbz : base ≤ wr.heap.size := Nat.le_trans hbase HFL.out.kept.size
          obtain ⟨wo, hwo⟩ : ∃ wo, wo = wr := ⟨_, rfl⟩
          subst hwo
          go_wp2_with fail
          go_loopw [7, 8] (fun gv i wi => ∃ q : Nat, q ≤ 64 ∧ i = .int .i64 q ∧ GrowI wo wi base a m d k q gv) (fun _ i _ => 64 - (intOf i).toNat)
          case atStart => exact ⟨0, Nat.zero_le _, rfl, HG0.out⟩
          case round =>
            clear HG0 c0
            obtain ⟨q, hq, rfl, hgr⟩ := hrel
            have HG := Lib.hid hgr
            have c0 := hgr.kept.cell C0.out HNE.out
            have hzz := hgr.kept.size
            clear hgr
            by_cases hql : q < 64
            · obtain ⟨z, hz⟩ : ∃ z : Nat, (m : Int) + q = z := ⟨m + q, by omega⟩
              have HZ : Hid (z = m + q) := Lib.hid (by omega)
              have hz9 : z ≤ 900000064 := by omega
              rcases HG.out.place with hpl | hpl
              · subst hpl
                by_cases hfit : m + q + 1 ≤ d
                · obtain ⟨g, rfl⟩ : ∃ g, a = some ⟨g, 0, none⟩ := row_someI HG.out.new (by omega)
                  go_wp2_with (first
                    | (go_at_call 68; refine (markI k z _ (by omega) (by omega)).mono ?_; rintro e w' ⟨rfl, rfl⟩)
                    | (at_builtin; refine wpList_append_fits _ rfl (.tmp 57) (.tmp 67) 37 rfl base 3 iB 1 Tryz.underlying37 hB0 hB2 g (m + q) d _ rfl (HG.out.new.alloc _) ⟨wr.heap.size, 0, none⟩ 1 1 [.int .i64 (mkI k z : Nat)] rfl rfl (cell_one_new _ _ _) (by simp [Value.oneCell']) (by omega) ?_; intro w3 hown3 hg3; rw [HZ.out] at hown3; have HG3 := Lib.hid (HG.out.fits hown3 hg3); clear hown3 hg3))
                  go_roundw
                  case rel => exact ⟨q + 1, by omega, by go_num, HG3.out⟩
                  case measure => simp [intOf]; omega
                · have HOC : Hid (∀ (o : Obj) b, a = some b → ∀ j u, (markRowI k (m + q))[j]? = some u → (wr.alloc o).cell? (b.add j) = some u) := Lib.hid fun o b hb j u hu => ((row_cellsI (f := mkvI k) HG.out.new).below ((Below.refl _ wr).alloc (Nat.le_refl _) o) (Nat.le_refl _)).cellsAt b hb j u hu
                  go_wp2_with (first
                    | (go_at_call 68; refine (markI k z _ (by omega) (by omega)).mono ?_; rintro e w' ⟨rfl, rfl⟩)
                    | (at_builtin; refine wpList_append_grows _ rfl (.tmp 57) (.tmp 67) 37 rfl 3 iB (.int .i64 0) 1 8 Tryz.underlying37 hB0 hB1 hB2 hB3 rfl (by omega) a (m + q) d (markRowI k (m + q)) rfl (row_nil_formI HG.out.new) (by simp [markRowI]) (HOC.out _) ⟨wr.heap.size, 0, none⟩ 1 1 [.int .i64 (mkI k z : Nat)] rfl rfl (cell_one_new _ _ _) (by simp [Value.oneCell']) (by omega) (by unfold maxLen; omega) (by omega) ?_; intro gv2 w3 hown3 hg3; rw [HZ.out] at hown3 hg3; have HG3 := Lib.hid (HG.out.moves (Nat.le_trans hbz hzz) hzz hown3 hg3); clear hown3 hg3))
                  go_roundw
                  case rel => exact ⟨q + 1, by omega, by go_num, HG3.out⟩
                  case measure => simp [intOf]; omega
              · have HPL := Lib.hid hpl
                clear hpl
                have HAW : Hid (∀ b, (Value.slice a m d).ownBlock = some b → b < wo.heap.size) := Lib.hid fun b hb => by
                  have h := HFL.out.rows k hlt
                  rw [← HE.out.1, ← HE.out.2.1, ← HE.out.2.2] at h
                  exact (row_lt h hb).2
                go_wp2_with (first
                  | (go_at_call 68; refine (markI k z _ (by omega) (by omega)).mono ?_; rintro e w' ⟨rfl, rfl⟩)
                  | (at_builtin; refine wpList_append_lies _ rfl (.tmp 57) (.tmp 67) 37 rfl base 3 iB (.int .i64 0) 1 8 Tryz.underlying37 hB0 hB1 hB2 hB3 rfl (by omega) _ (m + q) _ rfl (HG.out.new.alloc _) ⟨wr.heap.size, 0, none⟩ 1 1 [.int .i64 (mkI k z : Nat)] rfl rfl (cell_one_new _ _ _) (by simp [Value.oneCell']) (by omega) (by unfold maxLen; omega) (by omega) (by simp; omega) _ rfl ?_; intro g cap w3 hown3 hg3 hat _; rw [HZ.out] at hown3; have HG3 := Lib.hid (HG.out.lies hzz HPL.out HAW.out hown3 hg3 hat); clear hown3 hg3 hat))
                go_roundw
                case rel => exact ⟨q + 1, by omega, by go_num, HG3.out⟩
                case measure => simp [intOf]; omega
            · obtain rfl : q = 64 := by omega
              obtain ⟨A2, cap2, hgv, _, _, _, _⟩ := row_arr (f := mkvI k) HG.out.new
              subst hgv
              have hgs2 := HG.out.kept.row HFL.out.gs fun x hx hx2 => rows_neI HG.out.old (HG.out.kept.row HFL.out.gs fun y hy hy2 => by
                have h := HFL.out.rows k hlt
                rw [← HE.out.1, ← HE.out.2.1, ← HE.out.2.2] at h
                exact rows_neI h HFL.out.gs (by decide) y hy2 hy) (by decide) x hx2 hx
              have hck := row_cellI hgs2 hlt
              have hfk := hgs2.frozenAt k
              have HDN := Lib.hid (HFL.out.done HD.out hlt (w' := wr) (gv := .slice A2 (m + 64) cap2) (by rw [← HE.out.1, ← HE.out.2.1, ← HE.out.2.2]; exact HG.out.kept) (by rw [← HE.out.1, ← HE.out.2.1, ← HE.out.2.2]; exact HG.out.old) (by rw [← HE.out.2.1]; exact ⟨mkvI k, HG.out.new, fun _ _ => rfl⟩) (fun b hb => by
                rw [← HE.out.1, ← HE.out.2.1, ← HE.out.2.2]
                rcases HG.out.place with h | h
                · rw [h] at hb; exact .inl ((own_lenI _ _ _ _ _).trans hb)
                · exact .inr (h b hb)))
              clear hgs2
              obtain ⟨u, hu⟩ : ∃ u, wr.cell? ⟨H, k, none⟩ = some u := ⟨_, hck⟩
              clear hck
              go_wp2_with fail
              go_roundw
              case rel => exact ⟨k + 1, _, by omega, by go_num, HDN.out⟩
              case measure => simp [intOf]; omega
        · obtain rfl : k = K := by omega
          obtain ⟨wp, hwp⟩ : ∃ wp, wp = wr := ⟨_, rfl⟩
          subst hwp
          obtain ⟨K, hKk⟩ : ∃ K, K = k := ⟨_, rfl⟩
          subst hKk
          go_wp2_with fail
          go_loopw [9] (fun i wr => ∃ k : Nat, k ≤ K ∧ i = .int .i64 k ∧ ∃ mm, wr = wp.drewN mm) (fun i _ => K - (intOf i).toNat)
          case atStart => exact ⟨0, Nat.zero_le _, rfl, 0, rfl⟩
          case round =>
            obtain ⟨k, hk, rfl, mm, rfl⟩ := hrel
            by_cases hlt : k < K
            · obtain ⟨a, ha⟩ : ∃ a, a = A k := ⟨_, rfl⟩
              obtain ⟨m, hm⟩ : ∃ a, a = n k := ⟨_, rfl⟩
              obtain ⟨d, hd⟩ : ∃ a, a = c k := ⟨_, rfl⟩
              have hm9 := HN.out k hlt
              rw [← hm] at hm9
              have HE := Lib.hid (And.intro ha (And.intro hm hd))
              clear ha hm hd
              have i1 : (0 : Int) ≤ k := by omega
              have i2 : (k : Int) < K := by omega
              have c0 := ls_cellI HLS.out HFL.out.kept HF.out hlt
              have c1 := row_cellI HFL.out.gs hlt
              have hro := HFL.out.rows k hlt
              rw [← HE.out.1, ← HE.out.2.1, ← HE.out.2.2] at c0 hro
              obtain ⟨⟨f, hgo, hgf⟩, _⟩ := HFL.out.grown k hlt
              rw [← HE.out.2.1] at hgo hgf
              obtain ⟨A2, cap2, hgv, hga, _, _, _⟩ := row_arr hgo
              rw [hgv] at c1
              have HGA := Lib.hid hga
              have HGF := Lib.hid hgf
              have HRA := Lib.hid (row_cellsI (f := mkvI k) hro)
              obtain ⟨t, ht⟩ : ∃ t, t = m + 64 := ⟨_, rfl⟩
              rw [← ht] at c1
              have HT := Lib.hid ht
              have ht9 : t ≤ 900000064 := by omega
              clear hgo hgf hgv hga hro ht
              go_wp2_with fail
              go_loopw [10] (fun i wi => ∃ q : Nat, q ≤ t ∧ i = .int .i64 q ∧ ∃ mm, wi = wp.drewN mm) (fun i _ => t - (intOf i).toNat)
              case atStart => exact ⟨0, Nat.zero_le _, rfl, mm, rfl⟩
              case round =>
                obtain ⟨q, hq, rfl, mm, rfl⟩ := hrel
                by_cases hql : q < t
                · obtain ⟨b2, off2, rfl, _, hc2⟩ := HGA.out (by omega)
                  have e2 : wp.cell? ⟨b2, off2 + q, none⟩ = some (.int .i64 (mkI k q : Nat)) := by
                    have h := hc2 q (by have := HT.out; omega)
                    rw [HGF.out q (by have := HT.out; omega)] at h
                    exact h
                  have j1 : (0 : Int) ≤ q := by omega
                  have j2 : (q : Int) < t := by omega
                  clear hc2
                  by_cases hqm : q < m
                  · obtain ⟨b3, off3, rfl, _, hc3⟩ := HRA.out (by omega)
                    have e3 : wp.cell? ⟨b3, off3 + q, none⟩ = some (.int .i64 (mkI k q : Nat)) := hc3 q hqm
                    have j3 : (q : Int) < m := by omega
                    clear hc3
                    go_wp2_with fail
                    refine wp_region_quiet_lit (by kernel_rfl) (by kernel_rfl) ?_
                    repeat (any_goals (first | go_big_quiet_step ((go_at_call 68; exact quiet_add_left (markI k q _ (by omega) (by omega)))) | quiet_step ((go_at_call 68; exact quiet_add_left (markI k q _ (by omega) (by omega)))) | (refine wpQuiet_step (fun K hK => ?_); go_simp; split <;> (first | (exfalso; omega) | (refine hK _ ?_; clear hK K)))))
                    all_goals (refine wpQuiet_nil ?_; intro _ hw'; obtain ⟨nq, hw''⟩ := hw'; subst hw'')
                    all_goals go_wp2_with fail
                    all_goals go_roundw
                    case rel => exact ⟨q + 1, by omega, by go_num, _, rfl⟩
                    case measure => simp [intOf]; omega
                  · have d3 : decide (q < m) = false := by simp; omega
                    go_wp2_with fail
                    refine wp_region_quiet_lit (by kernel_rfl) (by kernel_rfl) ?_
                    repeat (any_goals (first | go_big_quiet_step ((go_at_call 68; exact quiet_add_left (markI k q _ (by omega) (by omega)))) | quiet_step ((go_at_call 68; exact quiet_add_left (markI k q _ (by omega) (by omega)))) | (refine wpQuiet_step (fun K hK => ?_); go_simp; split <;> (first | (exfalso; omega) | (refine hK _ ?_; clear hK K)))))
                    all_goals (refine wpQuiet_nil ?_; intro _ hw'; obtain ⟨nq, hw''⟩ := hw'; subst hw'')
                    all_goals go_wp2_with fail
                    all_goals go_roundw
                    case rel => exact ⟨q + 1, by omega, by go_num, _, rfl⟩
                    case measure => simp [intOf]; omega
                · obtain rfl : q = t := by omega
                  go_wp2_with fail
                  go_roundw
                  case rel => exact ⟨k + 1, by omega, by go_num, _, rfl⟩
                  case measure => simp [intOf]; omega
            · obtain rfl : k = K := by omega
              have HF4 : Hid (FlatI w (wp.drewN mm) base k (fun j => .slice (A j) (n j) (c j)) n H n 0 G) := Lib.hid (HFL.out.drewN mm).reset
              obtain ⟨w5, hw5⟩ : ∃ w5, w5 = wp.drewN mm := ⟨_, rfl⟩
              rw [← hw5] at HF4 ⊢
              clear hw5 HFL
              obtain ⟨K, hKk⟩ : ∃ K, K = k := ⟨_, rfl⟩
              subst hKk
              go_wp2_with fail
              go_loopw [11] (fun i wr => ∃ (k : Nat) (G : Nat → Value), k ≤ K ∧ i = .int .i64 k ∧ FlatI w wr base K (fun j => .slice (A j) (n j) (c j)) n H n k G) (fun i _ => K - (intOf i).toNat)
              case atStart => exact ⟨0, _, Nat.zero_le _, rfl, HF4.out⟩
              case round =>
                clear HF4
                obtain ⟨k, G, hk, rfl, hfl⟩ := hrel
                have HFL := Lib.hid hfl
                clear hfl
                by_cases hlt : k < K
                · obtain ⟨a, ha⟩ : ∃ a, a = A k := ⟨_, rfl⟩
                  obtain ⟨m, hm⟩ : ∃ a, a = n k := ⟨_, rfl⟩
                  obtain ⟨d, hd⟩ : ∃ a, a = c k := ⟨_, rfl⟩
                  have hm9 := HN.out k hlt
                  rw [← hm] at hm9
                  have HE := Lib.hid (And.intro ha (And.intro hm hd))
                  clear ha hm hd
                  have i1 : (0 : Int) ≤ k := by omega
                  have i2 : (k : Int) < K := by omega
                  have HNE : Hid (¬ (Value.slice a m d).ownBlock = some sl) := Lib.hid fun e => HF.out ⟨k, hlt, by show (Value.slice (A k) (n k) (c k)).ownBlock = some sl; rw [← HE.out.1, ← HE.out.2.1, ← HE.out.2.2]; exact e⟩
                  have C0 := Lib.hid (ls_cellI HLS.out HFL.out.kept HF.out hlt)
                  have HRO := Lib.hid (HFL.out.rows k hlt)
                  rw [← HE.out.1, ← HE.out.2.1, ← HE.out.2.2] at C0 HRO
                  have HGS := Lib.hid HFL.out.gs
                  have HGN : Hid (∀ x, (Value.slice (some ⟨H, 0, none⟩) K K).ownBlock = some x → ¬ (Value.slice a m d).ownBlock = some x) := Lib.hid fun x hx hx2 => rows_neI HRO.out HGS.out (by decide) x hx2 hx
                  have hbz : base ≤ wr.heap.size := Nat.le_trans hbase HFL.out.kept.size
                  obtain ⟨wo, hwo⟩ : ∃ wo, wo = wr := ⟨_, rfl⟩
                  subst hwo
                  go_wp2_with (at_make; refine wpList_make_full _ rfl _ _ 37 rfl wo.heap.size 3 iB (.int .i64 0) 1 Tryz.underlying37 hB0 hB1 hB2 _ _ _ _ 64 rfl rfl (by rfl) (by rfl) (by rw [hB3]; omega) (by unfold maxLen; omega) (Nat.le_refl _) ?_; intro w6 hown6 hg6)
                  have e6 : (madeCells (Value.int .i64 0).cells (64 * 1)).toList = (List.range 64).map fun _ => Value.int .i64 0 := by
                    apply List.ext_getElem (by simp [madeCells])
                    intro j h1 h2
                    simp [madeCells, Value.cells, Nat.mod_one]
                  rw [e6] at hown6
                  have HM6 : Hid (RowAtI w6 wo.heap.size (.slice (some ⟨wo.heap.size, 0, none⟩) 64 64) 64 (k + K) 0) := Lib.hid ⟨_, fun i hi => absurd hi (by omega), fun _ => rfl, hown6⟩
                  have HK6 : Hid (Keeps (fun _ => False) wo w6) := Lib.hid (Keeps.grown hg6 fun _ e => by cases e)
                  clear hown6 hg6 e6
                  go_wp2_with fail
                  go_loopw [13] (fun i wi => ∃ q : Nat, q ≤ 64 ∧ i = .int .i64 q ∧ RowAtI wi wo.heap.size (.slice (some ⟨wo.heap.size, 0, none⟩) 64 64) 64 (k + K) q ∧ Keeps (fun _ => False) wo wi) (fun i _ => 64 - (intOf i).toNat)
                  case atStart => exact ⟨0, Nat.zero_le _, rfl, HM6.out, HK6.out⟩
                  case round =>
                    clear HM6 HK6
                    obtain ⟨q, hq, rfl, hra, hkp⟩ := hrel
                    have HRA := Lib.hid hra
                    have HKP := Lib.hid hkp
                    by_cases hql : q < 64
                    · obtain ⟨z, hz⟩ : ∃ z : Nat, (k : Int) + K = z := ⟨k + K, by omega⟩
                      have HZ : Hid (z = k + K) := Lib.hid (by omega)
                      have hz9 : z ≤ 2000 := by omega
                      obtain ⟨f, _, _, ho⟩ := hra
                      have hcq := ho.cellAt q (by omega)
                      have hfq := ho.frozenAt q
                      rw [List.getElem?_map, List.getElem?_range hql] at hcq
                      obtain ⟨u, hu⟩ : ∃ u, wr.cell? ⟨wo.heap.size, q, none⟩ = some u := ⟨_, hcq⟩
                      have HS := Lib.hid (HRA.out.store hql)
                      have HST : Hid (Keeps (fun _ => False) wo (wr.setCell ⟨wo.heap.size, q, none⟩ (mkvI (k + K) q))) := Lib.hid (HKP.out.trans (Keeps.setCell (fun x => x = wo.heap.size) wr ⟨wo.heap.size, q, none⟩ _ rfl) fun i hi e => by omega)
                      have j1 : (0 : Int) ≤ q := by omega
                      have j2 : (q : Int) < 64 := by omega
                      clear hkp ho hcq
                      go_wp2_with (go_at_call 68; refine (markI z q _ (by omega) (by omega)).mono ?_; rintro e w' ⟨rfl, rfl⟩)
                      go_roundw
                      case rel =>
                        have h1 := HS.out
                        have h2 := HST.out
                        rw [← HZ.out] at h1 h2
                        exact ⟨q + 1, by omega, by go_num, by rw [← HZ.out]; exact h1, h2⟩
                      case measure => simp [intOf]; omega
                    · obtain rfl : q = 64 := by omega
                      obtain ⟨f, _, hf1, ho⟩ := hra
                      have c0 := hkp.cell C0.out (fun h => h)
                      have HO := Lib.hid ho
                      have HF1 : Hid (∀ u ∈ (List.range 64).map f, u.oneCell' = true) := Lib.hid fun u hu => by
                        obtain ⟨x, _, rfl⟩ := List.mem_map.1 hu
                        exact hf1 x
                      have HNW : Hid (∀ j u, ((List.range 64).map f)[j]? = some u → wr.cell? ((⟨wo.heap.size, 0, none⟩ : Addr).add j) = some u) := Lib.hid fun j u hu => (row_cellsI ho).cellsAt _ rfl j u hu
                      have HRW := Lib.hid (hkp.row HRO.out fun _ _ h => h)
                      have hgs := hkp.row HGS.out fun _ _ h => h
                      have HGW := Lib.hid hgs
                      have hzz := hkp.size
                      clear hkp ho hf1 hgs
                      have hjoin : markRowI k m ++ (List.range 64).map f = (List.range (m + 64)).map fun i => if i < m then mkvI k i else f (i - m) := map_joinI m 64 (mkvI k) f
                      have HJ := Lib.hid hjoin
                      clear hjoin
                      by_cases hfit : m + 64 ≤ d
                      · obtain ⟨g, rfl⟩ : ∃ g, a = some ⟨g, 0, none⟩ := row_someI HRW.out (by omega)
                        go_wp2_with (at_builtin; refine wpList_append_fits _ rfl (.tmp 148) (.tmp 149) 37 rfl base 3 iB 1 Tryz.underlying37 hB0 hB2 g m d _ rfl HRW.out ⟨wo.heap.size, 0, none⟩ 64 64 ((List.range 64).map f) rfl (by simp) HNW.out HF1.out (by omega) ?_; intro w7 hown7 hg7; have HK7 : Hid (Keeps (fun x => (Value.slice (some ⟨g, 0, none⟩) m d).ownBlock = some x) wr w7) := Lib.hid (Keeps.grown hg7 fun _ e => e); have HOL := Lib.hid (row_prefixI hown7 (by simp [markRowI])); rw [HJ.out] at hown7; have HW7 := Lib.hid hown7; have hgs7 := HK7.out.row HGW.out HGN.out; have hck := row_cellI hgs7 hlt; have hfk := hgs7.frozenAt k; obtain ⟨u, hu⟩ : ∃ u, w7.cell? ⟨H, k, none⟩ = some u := ⟨_, hck⟩; clear hown7 hg7 hgs7 hck c0)
                        go_roundw
                        case rel =>
                          refine ⟨k + 1, _, by omega, by go_num, HFL.out.done HD.out hlt (w' := w7) (gv := .slice (some ⟨g, 0, none⟩) (m + 64) d) ?_ ?_ ?_ ?_⟩
                          · rw [← HE.out.1, ← HE.out.2.1, ← HE.out.2.2]; exact (HKP.out.mono fun _ _ h => h.elim).trans HK7.out fun _ _ h => h
                          · rw [← HE.out.1, ← HE.out.2.1, ← HE.out.2.2]; exact HOL.out
                          · rw [← HE.out.2.1]; exact ⟨_, HW7.out, fun i hi => by rw [if_pos hi]⟩
                          · intro b hb
                            rw [← HE.out.1, ← HE.out.2.1, ← HE.out.2.2]; exact .inl hb
                        case measure => simp [intOf]; omega
                      · go_wp2_with (at_builtin; refine wpList_append_grows _ rfl (.tmp 148) (.tmp 149) 37 rfl 3 iB (.int .i64 0) 1 8 Tryz.underlying37 hB0 hB1 hB2 hB3 rfl (by omega) a m d (markRowI k m) rfl (row_nil_formI HRW.out) (by simp [markRowI]) (fun b hb => (row_cellsI (f := mkvI k) HRW.out).cellsAt b hb) ⟨wo.heap.size, 0, none⟩ 64 64 ((List.range 64).map f) rfl (by simp) HNW.out HF1.out (by omega) (by unfold maxLen; omega) (by omega) ?_; intro gv w7 hown7 hg7; have HK7 : Hid (Keeps (fun _ => False) wr w7) := Lib.hid (Keeps.grown hg7 fun _ e => by cases e); have HOL := Lib.hid (HK7.out.row HRW.out fun _ _ h => h); rw [HJ.out] at hown7; have HW7 := Lib.hid hown7; obtain ⟨A2, cap2, hsh⟩ := row_shapeI hown7; subst hsh; have hgs7 := HK7.out.row HGW.out (fun _ _ h => h); have hck := row_cellI hgs7 hlt; have hfk := hgs7.frozenAt k; obtain ⟨u, hu⟩ : ∃ u, w7.cell? ⟨H, k, none⟩ = some u := ⟨_, hck⟩; clear hown7 hg7 hgs7 hck c0)
                        go_roundw
                        case rel =>
                          refine ⟨k + 1, _, by omega, by go_num, HFL.out.done HD.out hlt (w' := w7) (gv := .slice A2 (m + 64) cap2) ?_ ?_ ?_ ?_⟩
                          · exact ((HKP.out.trans HK7.out fun _ _ h => h).mono fun _ _ h => h.elim)
                          · rw [← HE.out.1, ← HE.out.2.1, ← HE.out.2.2]; exact HOL.out
                          · rw [← HE.out.2.1]; exact ⟨_, row_more HW7.out (Nat.le_trans hbz hzz), fun i hi => by rw [if_pos hi]⟩
                          · exact fun b hb => .inr (Nat.le_trans hzz (row_lt HW7.out hb).1)
                        case measure => simp [intOf]; omega
                · obtain rfl : k = K := by omega
                  obtain ⟨wp, hwp⟩ : ∃ wp, wp = wr := ⟨_, rfl⟩
                  subst hwp
                  obtain ⟨K, hKk⟩ : ∃ K, K = k := ⟨_, rfl⟩
                  subst hKk
                  go_wp2_with fail
                  go_loopw [14] (fun i wr => ∃ k : Nat, k ≤ K ∧ i = .int .i64 k ∧ ∃ mm, wr = wp.drewN mm) (fun i _ => K - (intOf i).toNat)
                  case atStart => exact ⟨0, Nat.zero_le _, rfl, 0, rfl⟩
                  case round =>
                    obtain ⟨k, hk, rfl, mm, rfl⟩ := hrel
                    by_cases hlt : k < K
                    · obtain ⟨a, ha⟩ : ∃ a, a = A k := ⟨_, rfl⟩
                      obtain ⟨m, hm⟩ : ∃ a, a = n k := ⟨_, rfl⟩
                      obtain ⟨d, hd⟩ : ∃ a, a = c k := ⟨_, rfl⟩
                      have hm9 := HN.out k hlt
                      rw [← hm] at hm9
                      have HE := Lib.hid (And.intro ha (And.intro hm hd))
                      clear ha hm hd
                      have i1 : (0 : Int) ≤ k := by omega
                      have i2 : (k : Int) < K := by omega
                      have c0 := ls_cellI HLS.out HFL.out.kept HF.out hlt
                      have c1 := row_cellI HFL.out.gs hlt
                      have hro := HFL.out.rows k hlt
                      rw [← HE.out.1, ← HE.out.2.1, ← HE.out.2.2] at c0 hro
                      obtain ⟨⟨f, hgo, hgf⟩, _⟩ := HFL.out.grown k hlt
                      rw [← HE.out.2.1] at hgo hgf
                      obtain ⟨A2, cap2, hgv, hga, _, _, _⟩ := row_arr hgo
                      rw [hgv] at c1
                      have HGA := Lib.hid hga
                      have HGF := Lib.hid hgf
                      have HRA := Lib.hid (row_cellsI (f := mkvI k) hro)
                      obtain ⟨t, ht⟩ : ∃ t, t = m + 64 := ⟨_, rfl⟩
                      rw [← ht] at c1
                      have HT := Lib.hid ht
                      have ht9 : m < t := by omega
                      clear hgo hgf hgv hga hro ht
                      go_wp2_with fail
                      go_loopw [15] (fun i wi => ∃ q : Nat, q ≤ m ∧ i = .int .i64 q ∧ ∃ mm, wi = wp.drewN mm) (fun i _ => m - (intOf i).toNat)
                      case atStart => exact ⟨0, Nat.zero_le _, rfl, mm, rfl⟩
                      case round =>
                        obtain ⟨q, hq, rfl, mm, rfl⟩ := hrel
                        by_cases hqm : q < m
                        · obtain ⟨b2, off2, rfl, _, hc2⟩ := HGA.out (by omega)
                          have e2 : wp.cell? ⟨b2, off2 + q, none⟩ = some (.int .i64 (mkI k q : Nat)) := by
                            have h := hc2 q (by have := HT.out; omega)
                            rw [HGF.out q hqm] at h
                            exact h
                          have j1 : (0 : Int) ≤ q := by omega
                          have j2 : (q : Int) < t := by omega
                          clear hc2
                          obtain ⟨b3, off3, rfl, _, hc3⟩ := HRA.out (by omega)
                          have e3 : wp.cell? ⟨b3, off3 + q, none⟩ = some (.int .i64 (mkI k q : Nat)) := hc3 q hqm
                          have j3 : (q : Int) < m := by omega
                          clear hc3
                          go_wp2_with fail
                          refine wp_region_quiet_lit (by kernel_rfl) (by kernel_rfl) ?_
                          repeat (any_goals (first | go_big_quiet_step ((go_at_call 68; exact quiet_add_left (markI k q _ (by omega) (by omega)))) | quiet_step ((go_at_call 68; exact quiet_add_left (markI k q _ (by omega) (by omega)))) | (refine wpQuiet_step (fun K hK => ?_); go_simp; split <;> (first | (exfalso; omega) | (refine hK _ ?_; clear hK K)))))
                          all_goals (refine wpQuiet_nil ?_; intro _ hw'; obtain ⟨nq, hw''⟩ := hw'; subst hw'')
                          all_goals go_wp2_with fail
                          all_goals go_roundw
                          case rel => exact ⟨q + 1, by omega, by go_num, _, rfl⟩
                          case measure => simp [intOf]; omega
                        · obtain rfl : q = m := by omega
                          go_wp2_with fail
                          go_roundw
                          case rel => exact ⟨k + 1, by omega, by go_num, _, rfl⟩
                          case measure => simp [intOf]; omega
                    · obtain rfl : k = K := by omega
                      go_wp2_with fail
                      go_ret
                      exact ⟨rfl, HFL.out.kept.trans (Keeps.drewN _ _ _) fun _ _ h => h⟩
end Go.Proofs.YtodhaaaodmcplaaGreat
