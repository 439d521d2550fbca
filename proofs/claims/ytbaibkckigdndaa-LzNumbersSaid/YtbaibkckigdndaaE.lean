/- lz.Parse: bytes become pieces. -/
import Derived.Test.YtbaibkckigdndaaC
import Derived.Test.YtbaibkckigdndaaD
import Derived.Test.YtbaibkckigdndaaSrow
import Derived.Laws.MakeOwn
import Derived.Lib.MinMax
import Derived.Deep.CutRange
import Derived.Deep.CutBlock
namespace Go.Proofs.Ytbaibkckigdndaa
open Go.RowKit
def Pc.cells (p : Pc) : List Value := [.int .u8 p.byte, .int .i64 p.len, .int .i64 p.dist]
def pcsF (P : Nat → Pc) (k : Nat) : List Value := (P k).cells
theorem wide_pcs (P : Nat → Pc) : Wide 3 (pcsF P) := fun _ => rfl
theorem info3 : (Try.prog.info? 3).map (fun i => (i.zero, i.size, i.bytes)) = some (some (.int .i64 0), 1, 8) := by kernel_rfl
theorem info35 : (Try.prog.info? 35).map (fun i => (i.zero, i.size, i.bytes)) = some (some (.agg #[.int .u8 0, .int .i64 0, .int .i64 0]), 3, 24) := by kernel_rfl
theorem ahead_0 (f : Nat → Int) (n : Nat) : aheadL f n 0 = (List.replicate n (Value.int .i64 0)) := by
  unfold aheadL
  apply List.ext_getElem?
  intro i
  rw [List.getElem?_map, List.getElem?_replicate]
  by_cases h : i < n
  · rw [List.getElem?_range h, if_pos h]
    rfl
  · rw [List.getElem?_eq_none (by simpa using h), if_neg h]
    rfl
theorem heap_old2 (w : World) (o : Obj) {b : Nat} (h : b < w.heap.size) : (w.alloc o).heap[b]? = w.heap[b]? := Below.heap_alloc w o b h
theorem set_blk {w : World} {b o : Nat} {v : Value} {cur : List Value} {t : TypeId} (h : w.heap[b]? = some (.cells cur.toArray t (0, 0))) : (w.setCell ⟨b, o, none⟩ v).heap[b]? = some (.cells (cur.set o v).toArray t (0, 0)) := by
  rw [heap_setCell_same w b o _ _ _ h]; simp
theorem set3 {w : World} {q : Nat} {p : Pc} {x y z : Value} (h : w.heap[q]? = some (.cells p.cells.toArray 35 (0, 0))) : (((w.setCell ⟨q, 0, none⟩ x).setCell ⟨q, 1, none⟩ y).setCell ⟨q, 2, none⟩ z).heap[q]? = some (.cells [x, y, z].toArray 35 (0, 0)) ∧ Keeps (fun k => k = q) w (((w.setCell ⟨q, 0, none⟩ x).setCell ⟨q, 1, none⟩ y).setCell ⟨q, 2, none⟩ z) :=
  ⟨set_blk (cur := [x, y, .int .i64 p.dist]) (set_blk (cur := [x, .int .i64 p.len, .int .i64 p.dist]) (set_blk h)), ((Keeps.setCell (fun k => k = q) w ⟨q, 0, none⟩ x rfl).trans (Keeps.setCell (fun k => k = q) _ ⟨q, 1, none⟩ y rfl) fun _ _ h => h).trans (Keeps.setCell (fun k => k = q) _ ⟨q, 2, none⟩ z rfl) fun _ _ h => h⟩
theorem chain_stop {b : Nat → Int} {n a r : Nat} {fr : Int} {best : Pc} (h : r = 0 ∨ ¬ (0 ≤ fr ∧ (a : Int) - fr ≤ 32768)) : chainF b n a r fr best = best := by
  rcases h with rfl | h
  · rfl
  · cases r with
    | zero => rfl
    | succ r => rw [chainF, if_neg h]
theorem cells_new (w : World) (l : List Value) (t : TypeId) (j : Nat) (u : Value) (h : l[j]? = some u) : (w.alloc (.cells l.toArray t)).cell? ((⟨w.heap.size, 0, none⟩ : Addr).add j) = some u := by
  have : (⟨w.heap.size, 0, none⟩ : Addr).add j = ⟨w.heap.size, j, none⟩ := by unfold Addr.add; simp; exact fun h => h.symm
  rw [this]
  exact block_cell (heap_new w _) j u (by simpa using h)
/-- What lies in memory while a piece is sought: the best one so far in block q. -/
structure It (W w : World) (f : Nat → Int) (A : Option Addr) (n c ba bl : Nat) (av : Value) (M p : Nat) (v : Value) (k q : Nat) (best : Pc) : Prop where
  ps : PS w W.heap.size f A n c W.heap.size ba bl av M p
  row : w.ownsRow W.heap.size 35 3 v k (flatS (pcsF (pcF f n)) k)
  best : w.heap[q]? = some (.cells best.cells.toArray 35 (0, 0))
  below : Below W.heap.size W w
  ne : v.ownBlock ≠ some q
  hq : W.heap.size ≤ q
section
variable {W w w' : World} {f : Nat → Int} {A : Option Addr} {n c ba bl : Nat} {av : Value} {M p : Nat} {v : Value} {k q : Nat} {best : Pc} {g : Nat}
theorem It.new (h1 : PS w W.heap.size f A n c W.heap.size ba bl av M p) (h2 : w.ownsRow W.heap.size 35 3 v k (flatS (pcsF (pcF f n)) k)) (h3 : Below W.heap.size W w) (x : Int) :
    It W (w.alloc (.cells #[.int .u8 x, .int .i64 0, .int .i64 0] 35)) f A n c ba bl av M p v k w.heap.size ⟨x, 0, 0⟩ :=
  ⟨h1.go ((Below.refl _ w).alloc (Nat.le_refl _) _), h2.alloc _, heap_new w _, h3.alloc h3.size _, fun e => by have := (h2.lt _ e).2; omega, h3.size⟩
theorem It.put (h : It W w f A n c ba bl av M p v k q best) (h1 : PS w' W.heap.size f A n c W.heap.size ba bl av M (p + 1)) (h2 : Keeps (PutS av M) w w') : It W w' f A n c ba bl av M (p + 1) v k q best :=
  ⟨h1, h2.row h.row fun b e hS => by
      rcases hS with hS | rfl
      · rcases h.row.2 with ⟨rfl, -⟩ | ⟨g, cap, cur, rfl, -, hg, -⟩
        · simp [Value.ownBlock] at e
        · obtain rfl : g = b := Option.some.inj e
          exact row_ne_cells h.ps.row hg (by decide) hS
      · exact h.ps.map.ne_row h.row e,
    h2.heap h.best fun hS => hS.elim (row_ne_cells h.ps.row h.best (by decide)) fun e => h.ps.map.ne_cells h.best e.symm, h.below.trans (h2.below (fun b hS => hS.elim (fun e => (h.ps.row.lt b e).1) fun e => e ▸ h.ps.hM) h.below.size), h.ne, h.hq⟩
theorem It.store (h : It W w f A n c ba bl av M p v k q best) (b2 : Pc) (hk : Keeps (fun x => x = q) w w') (hb : w'.heap[q]? = some (.cells b2.cells.toArray 35 (0, 0))) : It W w' f A n c ba bl av M p v k q b2 :=
  ⟨h.ps.keeps hk (fun x hx e => by have := h.hq; omega) (fun e => by have := h.ps.boxb; rw [e, h.best] at this; injection this with this; injection this with _ e2; cases e2)
      (fun e => by have := h.ps.boxa; rw [e, h.best] at this; injection this with this; injection this with _ e2; cases e2) (fun e => by have := h.ps.boxl; rw [e, h.best] at this; injection this with this; injection this with _ e2; cases e2)
      (fun e => h.ps.map.ne_cells h.best e) (fun x e e2 => row_ne_cells h.ps.row h.best (by decide) (e2 ▸ e)),
    hk.row h.row (fun x e e2 => h.ne (e2 ▸ e)), hb, h.below.trans (hk.below (fun x e => e ▸ h.hq) h.below.size), h.ne, h.hq⟩
theorem It.go (h : It W w f A n c ba bl av M p v k q best) (hb : Below w.heap.size w w') : It W w' f A n c ba bl av M p v k q best :=
  ⟨h.ps.go hb, (Keeps.fresh (S := fun _ => False) hb).row h.row (fun _ _ h => h), (hb.block q (heap_lt h.best)).trans h.best, h.below.trans (hb.mono h.below.size), h.ne, h.hq⟩
theorem It.cells (h : It W w f A n c ba bl av M p v k q best) (hv : av = .slice (some ⟨g, 0, none⟩) n n) : w.cell? ⟨W.heap.size, 0, none⟩ = some (.slice A n c) ∧ w.cell? ⟨ba, 0, none⟩ = some (.slice (some ⟨g, 0, none⟩) n n) ∧ w.cell? ⟨q, 0, none⟩ = some (.int .u8 best.byte) ∧ w.cell? ⟨q, 1, none⟩ = some (.int .i64 best.len) ∧ w.cell? ⟨q, 2, none⟩ = some (.int .i64 best.dist) ∧ w.frozen? ⟨q, 0, none⟩ = false ∧ w.frozen? ⟨q, 1, none⟩ = false ∧ w.frozen? ⟨q, 2, none⟩ = false :=
  ⟨block_cell h.ps.boxb 0 _ rfl, hv ▸ block_cell h.ps.boxa 0 _ rfl, block_cell h.best 0 _ rfl, block_cell h.best 1 _ rfl, block_cell h.best 2 _ rfl, frozen_of_row w q 0 _ _ h.best, frozen_of_row w q 1 _ _ h.best, frozen_of_row w q 2 _ _ h.best⟩
theorem It.append {w3 : World} {o : Obj} (h : It W w f A n c ba bl av M p v k q best) (hg : (w.alloc o).grownBy w3 v.ownBlock) : PS w3 W.heap.size f A n c W.heap.size ba bl av M p ∧ Below W.heap.size W w3 := by
  have h0 := h.go ((Below.refl _ w).alloc (Nat.le_refl _) o)
  have hk := Keeps.grown (S := fun x => v.ownBlock = some x) hg fun x e => e
  refine ⟨h0.ps.keeps hk (fun x hx e => by have := (h.row.lt x e).1; omega) (row_ne_cells h.row h.ps.boxb (by decide)) (row_ne_cells h.row h.ps.boxa (by decide)) (row_ne_cells h.row h.ps.boxl (by decide)) (h.ps.map.ne_row h.row) fun x e e2 => ?_, h0.below.trans (hk.below (fun x e => (h.row.lt x e).1) h0.below.size)⟩
  rcases h.row.2 with ⟨rfl, -⟩ | ⟨g, cap, cur, rfl, -, hg, -⟩
  · simp [Value.ownBlock] at e2
  · obtain rfl : g = x := Option.some.inj e2
    exact row_ne_cells h.ps.row hg (by decide) e
/-- What stands in 'ahead'. -/
theorem It.ahead (h : It W w f A n c ba bl (.slice (some ⟨g, 0, none⟩) n n) M p v k q best) {i : Nat} (hi : i < p) (h3 : i + 3 ≤ n) : w.cell? ⟨g, i, none⟩ = some (.int .i64 (prevF f n i)) := by
  have := (h.ps.row.cellAt i (by omega)).trans (aheadL_at f (show i < n by omega))
  rwa [aheadF, if_pos ⟨hi, h3⟩] at this
end
/-- What Parse gives. -/
def ParsePost (w : World) (f : Nat → Int) (n : Nat) (e : Ending) (w' : World) : Prop :=
  ∃ K v, All f n K ∧ e = .returned v ∧ w'.ownsRow w.heap.size 35 3 v K (flatS (pcsF (pcF f n)) K) ∧ Below w.heap.size w w'
set_option maxRecDepth 100000 in
set_option maxHeartbeats 8000000 in
theorem parse18 (f : Nat → Int) (A : Option Addr) (n c : Nat) (w : World) (hn : n ≤ 65536) (hnc : n ≤ c) (ha : Arr w w.heap.size A n fun j => .int .u8 (f j)) (hf : ∀ i, i < n → 0 ≤ f i ∧ f i < 256) :
    Calls Try.prog 18 #[.slice A n c] w (ParsePost w f n) := by
  obtain ⟨i0, hi, hz0, hz1, hz2⟩ := infoParts info3
  obtain ⟨i1, ji, jz0, jz1, jz2⟩ := infoParts info35
  have HA := Lib.hid ha
  have HF := Lib.hid hf
  have HMM := @run_makeMap Try.prog
  have t0 : decide ((65536 : Int) < n) = false := by simp; omega
  clear ha hf
  go_enter Try.func18, Try.ntmps18
  go_wp2_with (at_make; refine wpList_make_full _ rfl _ _ 33 rfl (w.heap.size) 3 i0 (.int .i64 0) 1 Try.underlying33 hi hz0 hz1 _ _ _ _ n rfl rfl (by rfl) (by rfl) (by rw [hz2]; omega) (by unfold maxLen; omega) (by simp; omega) ?_; intro w1 hown1 hg1)
  clear HMM
  have hsz1 : w.heap.size + 1 + 1 + 1 < w1.heap.size := by
    obtain ⟨h1, h2⟩ := hown1
    rcases h2 with ⟨h3, -⟩ | ⟨g, cap, cur, h3, -, hg, -⟩
    · cases h3
    · injection h3 with h3
      injection h3 with h3
      injection h3 with h3
      have := heap_lt hg
      simp at h3
      omega
  have PS0 : Hid (PS (w1.alloc (.cells #[.slice (some ⟨w.heap.size + 1 + 1 + 1, 0, none⟩) n n] 33)) w.heap.size f A n c w.heap.size w1.heap.size (w.heap.size + 1 + 1) (.slice (some ⟨w.heap.size + 1 + 1 + 1, 0, none⟩) n n) (w.heap.size + 1) 0 ∧ Below w.heap.size w (w1.alloc (.cells #[.slice (some ⟨w.heap.size + 1 + 1 + 1, 0, none⟩) n n] 33))) := Lib.hid (by
    have hb0 : Below w.heap.size w (((w.alloc (.cells #[.slice A n c] 25)).alloc (.map #[] 0)).alloc (.cells #[.map (some (w.heap.size + 1))] 70)) := (((Below.refl _ w).alloc (Nat.le_refl _) _).alloc (by simp) _).alloc (by simp; omega) _
    have hb1 : Below w.heap.size w w1 := hb0.grown hg1 hb0.size (fun k e => by cases e)
    have hkp := Keeps.grown (S := fun _ => False) hg1 (fun k e => by cases e)
    have e1 : (madeCells (Value.int .i64 0).cells (n * 1)).toList = aheadL f n 0 := by
      rw [ahead_0, Nat.mul_one]
      exact toList_madeCells_one _ _
    refine ⟨⟨HA.out.below (hb1.alloc hb1.size _) (Nat.le_refl _), heap_old (hkp.heap (heap_old (heap_old (heap_new w _))) (fun h => h)), heap_new w1 _, heap_old (hkp.heap (heap_new_at _ (by simp)) (fun h => h)), ?_, ?_, Nat.le_refl _, hb1.size, by omega, by omega⟩, hb1.alloc hb1.size _⟩
    · have := hown1.alloc (.cells #[.slice (some ⟨w.heap.size + 1 + 1 + 1, 0, none⟩) n n] 33)
      rw [e1] at this
      simpa using this
    · have hm : Tm Try.prog ((w.alloc (.cells #[.slice A n c] 25)).alloc (.map #[] 0)) 72 3 3 (w.heap.size + 1) 0 (fun _ => none) := by
        have := tm_made (P := Try.prog) (w.alloc (.cells #[.slice A n c] 25)) 72 3 3
        simpa using this
      exact (((hm.keeps (heap_old2 _ _ hm.lt)).keeps (hkp.block _ (by simp) fun h => h)).keeps (heap_old2 _ _ (by omega))).congr fun ks _ => rfl)
  clear hown1 hg1
  generalize w.heap.size + 1 + 1 + 1 = g at PS0 hsz1 ⊢
  generalize w.heap.size + 1 + 1 = bl at PS0 ⊢
  generalize w.heap.size + 1 = M at PS0 ⊢
  generalize w1.heap.size = ba at PS0 hsz1 ⊢
  clear hsz1
  go_loopw [7, 8] (fun v0 i wr => ∃ (k : Nat) (v : Value), v = v0 ∧ (∀ j, j < k → atF f n j < n) ∧ i = .int .i64 (atF f n k : Nat) ∧ PS wr w.heap.size f A n c w.heap.size ba bl (.slice (some ⟨g, 0, none⟩) n n) M (atF f n k) ∧ wr.ownsRow w.heap.size 35 3 v k (flatS (pcsF (pcF f n)) k) ∧ Below w.heap.size w wr) (fun _ i _ => n - (intOf i).toNat)
  case atStart => exact ⟨0, _, rfl, fun j h => absurd h (Nat.not_lt_zero _), rfl, PS0.out.1, ⟨rfl, .inl ⟨rfl, rfl⟩⟩, PS0.out.2⟩
  case round =>
    clear PS0
    obtain ⟨k, v, rfl, hk, rfl, hps, hrow, hbw⟩ := hrel
    have HK := Lib.hid hk
    have HP := Lib.hid hps
    have HR := Lib.hid hrow
    have HB := Lib.hid hbw
    have hka := atF_ge f n k hk
    obtain ⟨a, ha⟩ : ∃ a, a = atF f n k := ⟨_, rfl⟩
    rw [← ha] at hka HP ⊢
    have HAT := Lib.hid ha
    have c1 : wr.cell? ⟨w.heap.size, 0, none⟩ = some (.slice A n c) := block_cell hps.boxb 0 _ rfl
    have c2 : wr.cell? ⟨ba, 0, none⟩ = some (.slice (some ⟨g, 0, none⟩) n n) := block_cell hps.boxa 0 _ rfl
    clear hk hps hrow hbw ha
    by_cases hlt : a < n
    · obtain ⟨b, off, rfl, hb, hc⟩ := HA.out (by omega)
      obtain ⟨x, hx⟩ : ∃ x, x = f a := ⟨_, rfl⟩
      have d0 : wr.cell? ⟨b, off + a, none⟩ = some (.int .u8 x) := by rw [hx]; exact (HB.out.cell (p := ⟨b, off + a, none⟩) hb).trans (hc a hlt)
      have HX := Lib.hid hx
      clear hc hx
      go_wp2_with fail
      have hit := It.new HP.out HR.out HB.out x
      refine (put30 _ w.heap.size f _ n c w.heap.size ba bl _ M a hit.ps hn hlt hnc HF.out).mono ?_
      rintro e w2 ⟨rfl, hp2, hk2⟩
      have IT := Lib.hid (hit.put hp2 hk2)
      generalize wr.heap.size = q at IT ⊢
      clear hit hp2 hk2 c1 c2 d0
      obtain ⟨c1, c2, c3, c4, c5, c6, c7, c8⟩ := IT.out.cells rfl
      obtain ⟨z, hz⟩ : ∃ z, decide ((a : Int) + 3 ≤ n) = z := ⟨_, rfl⟩
      have HZ := Lib.hid hz
      go_upto_if 38 with fail
      clear hz
      go_cut [10, 11, 12] from 39 to 73 (fun _ _ _ w' => It w w' f (some ⟨b, off, none⟩) n c ba bl (.slice (some ⟨g, 0, none⟩) n n) M (a + 1) v k q (bestF f n a))
      case first =>
        cases z
        case true =>
          have h3 : a + 3 ≤ n := by have := HZ.out; simp at this; omega
          obtain ⟨fr, hfr⟩ : ∃ fr, fr = prevF f n a := ⟨_, rfl⟩
          have d1 := IT.out.ahead (Nat.lt_succ_self a) h3
          rw [← hfr] at d1
          have hfb : fr = -1 ∨ ∃ p : Nat, fr = p ∧ p < a := by
            rw [hfr]
            rcases lastF_bd (b := f) (n := n) (x := f a) (y := f (a + 1)) (z := f (a + 2)) a with e | ⟨p, e, hp, -⟩
            · exact .inl e
            · exact .inr ⟨p, e, hp⟩
          have HFB := Lib.hid hfb
          have HR2 : Hid (chainF f n a 24 fr ⟨f a, 0, 0⟩ = bestF f n a) := Lib.hid (by rw [bestF, if_pos h3, hfr])
          clear hfr hfb
          go_wp2_with fail
          go_loopw [10, 11] (fun z y w' => ∃ (r : Nat) (fr : Int) (best : Pc), r ≤ 24 ∧ z = .int .i64 fr ∧ y = .int .i64 (24 - r : Nat) ∧ chainF f n a r fr best = bestF f n a ∧ (fr = -1 ∨ ∃ p : Nat, fr = p ∧ p < a) ∧ It w w' f (some ⟨b, off, none⟩) n c ba bl (.slice (some ⟨g, 0, none⟩) n n) M (a + 1) v k q best) (fun _ y _ => 24 - (intOf y).toNat)
          case atStart => exact ⟨24, fr, _, Nat.le_refl _, rfl, rfl, HR2.out, HFB.out, HX.out ▸ IT.out⟩
          case round =>
            clear d1
            obtain ⟨r, fr2, best, hr, rfl, rfl, hch, hfb, hit⟩ := hrel
            have IT2 := Lib.hid hit
            have HCH := Lib.hid hch
            obtain ⟨c1, c2, c3, c4, c5, c6, c7, c8⟩ := hit.cells rfl
            clear hit hch
            obtain ⟨m, hm⟩ : ∃ m, m = 24 - r := ⟨_, rfl⟩
            rw [← hm]
            have HMR := Lib.hid hm
            clear hm
            rcases hfb with rfl | ⟨p, rfl, hpa⟩
            · have HS := Lib.hid (chain_stop (b := f) (n := n) (a := a) (r := r) (fr := -1) (best := best) (.inr (by omega)))
              go_wp2_with fail
              go_meet
              rw [← HCH.out, HS.out]
              exact IT2.out
            · by_cases e2 : (a : Int) - p ≤ 32768
              · have s2 : decide ((a : Int) - p ≤ 32768) = true := by simp; omega
                by_cases e1 : m < 24
                · have s1 : decide ((m : Int) < 24) = true := by simp; omega
                  have HST : Hid (chainF f n a (r - 1) (prevF f n p) (if best.len < (lenF f n p a : Nat) then ⟨0, (lenF f n p a : Nat), a - p⟩ else best) = bestF f n a) := Lib.hid (by
                    have h1 := HCH.out
                    have h2 := HMR.out
                    rw [show r = (r - 1) + 1 by omega, chainF, if_pos ⟨by omega, e2⟩] at h1
                    exact h1)
                  go_wp2_with fail
                  refine (len31 f _ n c w.heap.size w.heap.size p a _ hn IT2.out.ps.arr c1 hpa hlt).mono ?_
                  rintro e w3 ⟨rfl, m3, rfl⟩
                  obtain ⟨L, hL⟩ : ∃ L, L = lenF f n p a := ⟨_, rfl⟩
                  rw [← hL] at HST ⊢
                  have IT3 := Lib.hid (IT2.out.go (below_drewN (Below.refl _ _) m3))
                  have hfb3 : prevF f n p = -1 ∨ ∃ o : Nat, prevF f n p = o ∧ o < a := by
                    rcases lastF_bd (b := f) (n := n) (x := f p) (y := f (p + 1)) (z := f (p + 2)) p with e | ⟨o, e, ho, -⟩
                    · exact .inl e
                    · exact .inr ⟨o, e, by omega⟩
                  obtain ⟨fr3, hfr⟩ : ∃ fr3, fr3 = prevF f n p := ⟨_, rfl⟩
                  rw [← hfr] at HST hfb3
                  have HFB3 := Lib.hid hfb3
                  have HFR := Lib.hid hfr
                  clear hL hfb3 hfr e2
                  by_cases e3 : best.len < L
                  · have s3 : decide (best.len < (L : Int)) = true := by simp; omega
                    rw [if_pos e3] at HST
                    clear e3
                    go_upto_region 15 with fail
                    have h3k := set3 (x := .int .u8 0) (y := .int .i64 L) (z := .int .i64 (a - p)) IT3.out.best
                    have IT4 := Lib.hid (IT3.out.store ⟨0, L, a - p⟩ h3k.2 h3k.1)
                    have d1 := IT4.out.ahead (i := p) (by omega) (by omega)
                    rw [← HFR.out] at d1
                    obtain ⟨c1, c2, -⟩ := IT4.out.cells rfl
                    clear h3k
                    go_wp2_with fail
                    go_roundw
                    case rel => exact ⟨r - 1, fr3, ⟨0, L, a - p⟩, by omega, rfl, by have := HMR.out; rw [show ((24 - (r - 1) : Nat) : Int) = m + 1 by omega], HST.out, HFB3.out, IT4.out⟩
                    case measure => have := HMR.out; simp [intOf]; omega
                  · have s3 : decide (best.len < (L : Int)) = false := by simp; omega
                    rw [if_neg e3] at HST
                    clear e3
                    have d1 := IT3.out.ahead (i := p) (by omega) (by omega)
                    rw [← HFR.out] at d1
                    go_wp2_with fail
                    go_roundw
                    case rel => exact ⟨r - 1, fr3, best, by omega, rfl, by have := HMR.out; rw [show ((24 - (r - 1) : Nat) : Int) = m + 1 by omega], HST.out, HFB3.out, IT3.out⟩
                    case measure => have := HMR.out; simp [intOf]; omega
                · have s1 : decide ((m : Int) < 24) = false := by simp; omega
                  have HS := Lib.hid (chain_stop (b := f) (n := n) (a := a) (r := r) (fr := p) (best := best) (.inl (by have := HMR.out; omega)))
                  go_wp2_with fail
                  go_meet
                  rw [← HCH.out, HS.out]
                  exact IT2.out
              · have s2 : decide ((a : Int) - p ≤ 32768) = false := by simp; omega
                have HS := Lib.hid (chain_stop (b := f) (n := n) (a := a) (r := r) (fr := p) (best := best) (.inr (fun h => e2 h.2)))
                clear e2
                go_wp2_with fail
                go_meet
                rw [← HCH.out, HS.out]
                exact IT2.out
        case false =>
          have h3 : ¬ a + 3 ≤ n := by have := HZ.out; simp at this; omega
          have HS : Hid (bestF f n a = ⟨x, 0, 0⟩) := Lib.hid (by rw [bestF, if_neg h3, HX.out])
          go_wp2_with fail
          go_meet
          rw [HS.out]
          exact IT.out
      case rest =>
        have IT2 := Lib.hid hcut
        obtain ⟨d1, d2, d3, d4, d5, -⟩ := hcut.cells rfl
        obtain ⟨s1, s2, s3⟩ := step_bd hlt (b := f)
        obtain ⟨S, hS⟩ : ∃ S, S = stepF f n a := ⟨_, rfl⟩
        rw [← hS] at s1 s2 s3
        have hl : ∃ l : Nat, (bestF f n a).len = l ∧ max l 1 = S := by
          rw [hS, stepF]
          rcases (bestF_fits f n a).kind with h | ⟨h1, h2, h3, -⟩
          · exact ⟨0, by rw [h]; rfl, by rw [h]; rfl⟩
          · exact ⟨(bestF f n a).len.toNat, by omega, rfl⟩
        obtain ⟨l, hl1, hl2⟩ := hl
        rw [hl1] at d4
        have HS := Lib.hid (And.intro hS (And.intro hl1 hl2))
        have e1 : max (l : Int) 1 = S := by omega
        clear hcut hS hl1 hl2 c1 c2 c3 c4 c5 c6 c7 c8
        go_upto_region 20 with fail
        clear e1 d1 d2 d3 d4 d5
        go_loopw [8, 78] (fun z y w' => ∃ i : Nat, i + 1 ≤ S ∧ z = .int .i64 (a + i) ∧ y = .int .i64 i ∧ It w w' f (some ⟨b, off, none⟩) n c ba bl (.slice (some ⟨g, 0, none⟩) n n) M (a + 1 + i) v k q (bestF f n a)) (fun _ y _ => S - (intOf y).toNat)
        case atStart => exact ⟨0, by omega, by simp, rfl, IT2.out⟩
        case round =>
          clear IT2
          obtain ⟨i, hi, rfl, rfl, hit⟩ := hrel
          have IT3 := Lib.hid hit
          clear hit
          by_cases hlast : i + 1 < S
          · have t1 : decide ((i : Int) < S - 1) = true := by simp; omega
            have e2 : (a : Int) + i + 1 = ((a + 1 + i : Nat) : Int) := by omega
            go_wp2_with fail
            refine (put30 _ w.heap.size f _ n c w.heap.size ba bl _ M (a + 1 + i) IT3.out.ps hn (by omega) hnc HF.out).mono ?_
            rintro e w3 ⟨rfl, hp3, hk3⟩
            have IT4 := Lib.hid (IT3.out.put hp3 hk3)
            clear hp3 hk3
            go_wp2_with fail
            go_roundw
            case rel => exact ⟨i + 1, by omega, by go_num, by go_num, IT4.out⟩
            case measure => simp [intOf]; omega
          · obtain rfl : S = i + 1 := by omega
            have t1 : decide ((i : Int) < ((i + 1 : Nat) : Int) - 1) = false := by simp
            obtain ⟨d1, d2, d3, d4, d5, -⟩ := IT3.out.cells rfl
            have hkn : k ≤ 65536 := by omega
            have one3 : ∀ u ∈ (bestF f n a).cells, u.oneCell' = true := by
              intro u hu
              simp [Pc.cells] at hu
              rcases hu with rfl | rfl | rfl <;> rfl
            have ONE := Lib.hid one3
            clear one3
            go_wp2_with (at_builtin; refine wpList_append_own _ rfl _ _ 22 rfl w.heap.size 35 i1 (.agg #[.int .u8 0, .int .i64 0, .int .i64 0]) 3 24 Try.underlying22 ji jz0 jz1 jz2 rfl (by decide) _ _ _ rfl (IT3.out.row.alloc _) ⟨wr.heap.size, 0, none⟩ 1 1 (bestF f n a).cells rfl rfl (cells_new _ _ _) ONE.out (by unfold maxLen; omega) (by omega) (by simp; exact Nat.le_trans IT3.out.below.size (Nat.le_succ _)) ?_; intro v' w3 hown hgr _)
            go_roundw
            case rel =>
              obtain ⟨q1, q2⟩ := IT3.out.append hgr
              have ek : atF f n (k + 1) = a + 1 + i := by rw [atF, ← HAT.out, ← HS.out.1]; omega
              refine ⟨k + 1, v', rfl, fun j hj => ?_, by rw [ek]; congr 1; omega, by rw [ek]; exact q1, ?_, q2⟩
              · by_cases e : j = k
                · rw [e, ← HAT.out]; exact hlt
                · exact HK.out j (by omega)
              · have e3 : (bestF f n a).cells = pcsF (pcF f n) k := by rw [pcsF, pcF, ← HAT.out]
                rw [e3] at hown
                exact hown
            case measure => simp [intOf]; omega
    · obtain rfl : a = n := by omega
      go_wp2_with fail
      go_ret
      exact ⟨k, v, ⟨HK.out, by rw [← HAT.out]; exact Nat.le_refl _⟩, rfl, HR.out, HB.out⟩
end Go.Proofs.Ytbaibkckigdndaa
