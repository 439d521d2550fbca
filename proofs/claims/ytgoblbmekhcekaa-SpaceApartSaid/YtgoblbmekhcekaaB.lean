/- What the small functions of layer 19 (space) compute, at every input. No condition. -/
import Derived.Test.YtgoblbmekhcekaaA
namespace Go.Proofs.Ytgoblbmekhcekaa
open Go.RowKit
theorem infoParts {P : Program} {T : TypeId} {z : Value} {s b : Nat} (h : (P.info? T).map (fun i => (i.zero, i.size, i.bytes)) = some (some z, s, b)) : ∃ i, P.info? T = some i ∧ i.zero = some z ∧ i.size = s ∧ i.bytes = b := by
  cases hi : P.info? T with
  | none => simp [hi] at h
  | some i => simp [hi] at h; exact ⟨i, rfl, h.1, h.2.1, h.2.2⟩
theorem there_t (b : Nat) (S : Int) (w : World) (h : w.cell? ⟨b, 259, none⟩ = some (.int .i64 S)) (hS : 0 < S) : Calls Try.prog 30 #[.pointer (some ⟨b, 0, none⟩)] w fun e w' => e = .returned (.bool true) ∧ w = w' := by
  go_enter Try.func30, Try.ntmps30
  go_wp2
  go_ret
  exact ⟨rfl, rfl⟩
theorem there_f (b : Nat) (w : World) (h : w.cell? ⟨b, 259, none⟩ = some (.int .i64 0)) : Calls Try.prog 30 #[.pointer (some ⟨b, 0, none⟩)] w fun e w' => e = .returned (.bool false) ∧ w = w' := by
  go_enter Try.func30, Try.ntmps30
  go_wp2
  go_ret
  exact ⟨rfl, rfl⟩
theorem there_n (w : World) : Calls Try.prog 30 #[.pointer none] w fun e w' => e = .returned (.bool false) ∧ w = w' := by
  go_enter Try.func30, Try.ntmps30
  go_wp2
  go_ret
  exact ⟨rfl, rfl⟩
/-- A row that the call owns is a slice of so many. -/
theorem own_form {w : World} {base : Nat} {e : TypeId} {size : Nat} {v : Value} {n : Nat} {xs : List Value} (h : w.ownsRow base e size v n xs) : ∃ A c, v = .slice A n c ∧ n ≤ c ∧ c ≤ maxLen ∧ (A = none → n = 0 ∧ c = 0) := by
  rcases h.2 with ⟨rfl, rfl⟩ | ⟨g, cap, cur, rfl, _, _, h1, h2, _⟩
  · exact ⟨none, 0, rfl, Nat.le_refl _, by simp [maxLen], fun _ => ⟨rfl, rfl⟩⟩
  · exact ⟨_, cap, rfl, h1, h2, fun h => by cases h⟩
theorem open13 (w : World) (b : Nat) (g : Geo) (n : Nw) (was : List Nw) (row : Value) (h : Sp w b g n was row) : Calls Try.prog 13 #[.pointer (some ⟨b, 0, none⟩)] w fun e w' => e = .returned (.int .i64 n.op) ∧ w = w' := by
  obtain ⟨c0, c1, c2, c3, c4, c5, c6, c7⟩ := sp_cells h.blk h.le
  have hS := h.fine.s1
  clear h
  go_enter Try.func13, Try.ntmps13
  go_wp2_with (go_at_call 30; refine (there_t b g.S _ c3 (by omega)).mono ?_; rintro e w1 ⟨rfl, rfl⟩)
  go_ret
  exact ⟨rfl, rfl⟩
theorem mark14 (w : World) (b : Nat) (g : Geo) (n : Nw) (was : List Nw) (row : Value) (h : Sp w b g n was row) : Calls Try.prog 14 #[.pointer (some ⟨b, 0, none⟩)] w fun e w' => e = .returned (.int .i64 (was.length : Nat)) ∧ w = w' := by
  obtain ⟨c0, c1, c2, c3, c4, c5, c6, c7⟩ := sp_cells h.blk h.le
  have hS := h.fine.s1
  obtain ⟨A, c, rfl, -, -, -⟩ := own_form h.own
  clear h
  go_enter Try.func14, Try.ntmps14
  go_wp2_with (go_at_call 30; refine (there_t b g.S _ c3 (by omega)).mono ?_; rintro e w1 ⟨rfl, rfl⟩)
  go_ret
  exact ⟨rfl, rfl⟩
/-- How many of the first k numbers are nought. -/
def cntZ (f : Nat → Int) : Nat → Nat
  | 0 => 0
  | k + 1 => cntZ f k + if f k = 0 then 1 else 0
theorem cntZ_le (f : Nat → Int) : ∀ k, cntZ f k ≤ k
  | 0 => Nat.le_refl _
  | k + 1 => by have := cntZ_le f k; simp only [cntZ]; split <;> omega
set_option maxHeartbeats 1000000 in
theorem ufree31 (f : Nat → Int) (A : Option Addr) (n c B : Nat) (w : World) (hn : n ≤ 100000) (ha : Arr w B A n fun j => .int .i64 (f j)) : Calls Try.prog 31 #[.slice A n c] w fun e w' => e = .returned (.int .i64 (cntZ f n : Nat)) ∧ w = w' := by
  have HA := Lib.hid ha
  clear ha
  go_enter Try.func31, Try.ntmps31
  go_wp2
  go_loop [3, 8] (fun m i => ∃ k : Nat, k ≤ n ∧ i = .int .i64 k ∧ m = .int .i64 (cntZ f k : Nat)) (fun _ i => n - (intOf i).toNat)
  case atStart => exact ⟨0, Nat.zero_le _, rfl, rfl⟩
  case round =>
    obtain ⟨k, hk, rfl, rfl⟩ := hrel
    by_cases hlt : k < n
    · obtain ⟨b, off, rfl, -, hc⟩ := HA.out (by omega)
      have hck : w.cell? ⟨b, off + k, none⟩ = some (.int .i64 (f k)) := hc k hlt
      clear hc
      have hcz := cntZ_le f k
      obtain ⟨x, hx⟩ : ∃ x, x = f k := ⟨_, rfl⟩
      obtain ⟨z, hz⟩ : ∃ z, z = cntZ f k := ⟨_, rfl⟩
      have HS : Hid (cntZ f (k + 1) = z + if x = 0 then 1 else 0) := Lib.hid (by rw [hx, hz]; rfl)
      rw [← hx] at hck
      rw [← hz] at hcz ⊢
      clear hx hz
      by_cases h0 : x = 0
      · subst h0
        go_wp2
        go_round
        case rel => exact ⟨k + 1, by omega, by go_num, by rw [HS.out]; go_num⟩
        case measure => simp [intOf]; omega
      · have d0 : (x == 0) = false := by simpa using h0
        go_wp2
        go_round
        case rel => exact ⟨k + 1, by omega, by go_num, by rw [HS.out, if_neg h0]; rfl⟩
        case measure => simp [intOf]; omega
    · obtain rfl : k = n := by omega
      go_wp2
      go_ret
      exact ⟨rfl, rfl⟩
set_option maxRecDepth 100000 in
set_option maxHeartbeats 1000000 in
theorem index32 (b k0 : Nat) (c : Nat) (w : World) (hk0 : k0 < 256) (h0 : w.cell? ⟨b, k0, none⟩ = some (.bool false)) (h1 : ∀ j, j < k0 → w.cell? ⟨b, j, none⟩ = some (.bool true)) :
    Calls Try.prog 32 #[.slice (some ⟨b, 0, none⟩) 256 c, .bool false] w fun e w' => e = .returned (.int .i64 (k0 : Nat)) ∧ w = w' := by
  have H1 := Lib.hid h1
  clear h1
  go_enter Try.func32, Try.ntmps32
  go_wp2
  go_loop [8] (fun i => ∃ k : Nat, k ≤ k0 ∧ i = .int .i64 k) (fun i => k0 - (intOf i).toNat)
  case atStart => exact ⟨0, Nat.zero_le _, rfl⟩
  case round =>
    obtain ⟨k, hk, rfl⟩ := hrel
    by_cases hlt : k < k0
    · have hck := H1.out k hlt
      go_wp2
      go_round
      case rel => exact ⟨k + 1, by omega, by go_num⟩
      case measure => simp [intOf]; omega
    · obtain rfl : k = k0 := by omega
      go_wp2
      go_ret
      exact ⟨rfl, rfl⟩
/-- Is a count one that may not be? -/
def badB (G x : Int) : Bool := decide (x < 0) || decide (G < x)
theorem bad43t (x G : Int) (h : Nat) (w : World) (hc : w.cell? ⟨h, 2, none⟩ = some (.int .i64 G)) (hb : badB G x = true) : Calls Try.prog 43 #[.int .i64 x, .pointer (some ⟨h, 0, none⟩)] w fun e w' => e = .returned (.bool true) ∧ w = w' := by
  simp only [badB, Bool.or_eq_true, decide_eq_true_eq] at hb
  by_cases h0 : x < 0
  · go_enter Try.func43, Try.ntmps43
    go_wp2
    go_ret
    exact ⟨rfl, rfl⟩
  · have h1 : G < x := by omega
    clear hb
    go_enter Try.func43, Try.ntmps43
    go_wp2
    go_ret
    exact ⟨rfl, rfl⟩
theorem bad43f (x G : Int) (h : Nat) (w : World) (hc : w.cell? ⟨h, 2, none⟩ = some (.int .i64 G)) (hb : badB G x = false) : Calls Try.prog 43 #[.int .i64 x, .pointer (some ⟨h, 0, none⟩)] w fun e w' => e = .returned (.bool false) ∧ w = w' := by
  simp only [badB, Bool.or_eq_false_iff, decide_eq_false_iff_not] at hb
  obtain ⟨h0, h1⟩ := hb
  go_enter Try.func43, Try.ntmps43
  go_wp2
  go_ret
  exact ⟨rfl, rfl⟩
/-- Are all counts such as may be? -/
def fineB (G : Int) (f : Nat → Int) : Nat → Bool
  | 0 => true
  | k + 1 => fineB G f k && !badB G (f k)
theorem fineB_iff {G : Int} {f : Nat → Int} : ∀ {n : Nat}, fineB G f n = true ↔ ∀ j, j < n → badB G (f j) = false
  | 0 => by simp [fineB]
  | n + 1 => by
    rw [fineB, Bool.and_eq_true, fineB_iff (n := n)]
    constructor
    · rintro ⟨h1, h2⟩ j hj
      rcases Nat.lt_or_ge j n with h | h
      · exact h1 j h
      · obtain rfl : j = n := by omega
        simpa using h2
    · intro h
      exact ⟨fun j hj => h j (by omega), by simpa using h n (by omega)⟩
theorem fineB_at {G : Int} {f : Nat → Int} {n k : Nat} (hk : k < n) (h : badB G (f k) = true) : fineB G f n = false := by
  cases e : fineB G f n
  · rfl
  · rw [fineB_iff.1 e k hk] at h; cases h
def IdxPost (w : World) (ok : Bool) (e : Ending) (w' : World) : Prop := ∃ r : Int, e = .returned (.int .i64 r) ∧ decide (0 ≤ r) = !ok ∧ w = w'
set_option maxHeartbeats 1000000 in
theorem indexf48 (f : Nat → Int) (G : Int) (A : Option Addr) (n c B h : Nat) (w : World) (hn : n ≤ 140737488351232) (ha : Arr w B A n fun j => .int .i64 (f j)) (hc : w.cell? ⟨h, 2, none⟩ = some (.int .i64 G)) :
    Calls Try.prog 48 #[.slice A n c, .func (.func 43) #[] #[.pointer (some ⟨h, 0, none⟩)]] w (IdxPost w (fineB G f n)) := by
  have HA := Lib.hid ha
  have HC := Lib.hid hc
  clear ha hc
  go_enter Try.func48, Try.ntmps48
  go_wp2
  go_loop [8] (fun i => ∃ k : Nat, k ≤ n ∧ i = .int .i64 k ∧ Hid (fineB G f k = true)) (fun i => n - (intOf i).toNat)
  case atStart => exact ⟨0, Nat.zero_le _, rfl, Lib.hid rfl⟩
  case round =>
    obtain ⟨k, hk, rfl, HF⟩ := hrel
    by_cases hlt : k < n
    · obtain ⟨b, off, rfl, -, hc⟩ := HA.out (by omega)
      have hck := hc k hlt
      clear hc
      cases hb : badB G (f k)
      · have HB := Lib.hid hb
        clear hb
        go_wp2_with fail
        refine (bad43f (f k) G h w HC.out HB.out).mono ?_
        rintro e _ ⟨rfl, rfl⟩
        go_wp2_with fail
        go_round
        case rel => exact ⟨k + 1, by omega, by go_num, Lib.hid (by rw [fineB, HF.out, HB.out]; rfl)⟩
        case measure => simp [intOf]; omega
      · have HB := Lib.hid hb
        clear hb
        go_wp2_with fail
        refine (bad43t (f k) G h w HC.out HB.out).mono ?_
        rintro e _ ⟨rfl, rfl⟩
        go_wp2_with fail
        go_ret
        exact ⟨k, rfl, by rw [fineB_at hlt HB.out]; simp, rfl⟩
    · obtain rfl : k = n := by omega
      go_wp2
      go_ret
      exact ⟨-1, rfl, by rw [HF.out]; rfl, rfl⟩
theorem containsf42 (f : Nat → Int) (G : Int) (A : Option Addr) (n c B h : Nat) (w : World) (hn : n ≤ 140737488351232) (ha : Arr w B A n fun j => .int .i64 (f j)) (hc : w.cell? ⟨h, 2, none⟩ = some (.int .i64 G)) (ok : Bool) (hok : fineB G f n = ok) :
    Calls Try.prog 42 #[.slice A n c, .func (.func 43) #[] #[.pointer (some ⟨h, 0, none⟩)]] w fun e w' => e = .returned (.bool (!ok)) ∧ w = w' := by
  have HA := Lib.hid ha
  have HC := Lib.hid hc
  have HO := Lib.hid hok
  clear ha hc hok
  go_enter Try.func42, Try.ntmps42
  go_wp2_with fail
  refine (indexf48 f G A n c B h w hn HA.out HC.out).mono ?_
  rintro e w1 ⟨r, rfl, hr, rfl⟩
  rw [HO.out] at hr
  go_wp2_with fail
  go_ret
  exact ⟨rfl, rfl⟩
/-- Are counts right for a geometry? -/
def countsB (g : Geo) (f : Nat → Int) (n : Nat) : Bool := decide ((n : Int) = g.S) && fineB g.G f n
set_option maxHeartbeats 1000000 in
theorem right28 (g : Geo) (f : Nat → Int) (A : Option Addr) (n c : Nat) (w : World) (hn : n ≤ 140737488351232) (ha : Arr w w.heap.size A n fun j => .int .i64 (f j)) :
    Calls Try.prog 28 #[gv g, .slice A n c] w fun e w' => e = .returned (.bool (countsB g f n)) ∧ Below w.heap.size w w' := by
  have hB := Lib.hid ((Below.refl _ w).alloc (Nat.le_refl w.heap.size) (.cells (gcs g) 23))
  have hmf : ∀ (fn : Fn) (first cap : Array Value) (w : World), (Instr.makeFunc fn first cap).run Try.prog w = .ok (.func fn first cap) w := fun _ _ _ _ => rfl
  have HA := Lib.hid (ha.below hB.out (Nat.le_refl _))
  clear ha
  by_cases hs : (n : Int) = g.S
  · have R := Lib.hid (show countsB g f n = fineB g.G f n by simp [countsB, hs])
    have d : ((n : Int) == g.S) = true := by simpa using hs
    clear hs
    go_enter Try.func28, Try.ntmps28
    go_wp2_with (go_at_call 42; refine (containsf42 f g.G A n c _ w.heap.size _ hn HA.out (block_cell (heap_new w _) 2 _ rfl) _ rfl).mono ?_; rintro e w1 ⟨rfl, rfl⟩)
    go_ret
    exact ⟨by rw [R.out]; simp, hB.out⟩
  · have R := Lib.hid (show countsB g f n = false by simp [countsB, hs])
    have d : ((n : Int) == g.S) = false := by simpa using hs
    clear hs
    go_enter Try.func28, Try.ntmps28
    go_wp2
    go_ret
    exact ⟨ret_bool R.out.symm, hB.out⟩
end Go.Proofs.Ytgoblbmekhcekaa
