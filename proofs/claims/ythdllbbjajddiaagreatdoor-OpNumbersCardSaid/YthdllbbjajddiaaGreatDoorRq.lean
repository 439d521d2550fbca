/- Layer 25 (op): what the document's Get reads, in plain Lean: it tells as the program's. -/
import Derived.Test.YthdllbbjajddiaaGreatDoorRb
import Derived.Test.YthdllbbjajddiaaGreatDoorRe
import Derived.Laws.BytesArg
import Derived.Lib.Bytes
set_option linter.all false
namespace Go.Proofs.YthdllbbjajddiaaGreatDoor
def freshL (l : List Int) (at_ : Nat) : Fr := ⟨readL l at_ 32, saidR l (at_ + 32) 4, saidR l (at_ + 36) 2, saidR l (at_ + 38) 1, 0⟩
def putL (l : List Int) (at_ : Nat) : Pu := ⟨saidR l at_ 2, readL l (at_ + 2) 32, saidR l (at_ + 34) 1, saidR l (at_ + 35) 1⟩
def newsL (l : List Int) (at_ n : Nat) : List Fr := (List.range n).map fun i => freshL l (at_ + i * 39)
def putsL (l : List Int) (at_ n : Nat) : List Pu := (List.range n).map fun i => putL l (at_ + i * 36)
def newsN (l : List Int) : Nat := (saidR l 1 1).toNat
def putsAt (l : List Int) : Nat := 2 + newsN l * 39
def putsN (l : List Int) : Nat := (saidR l (putsAt l) 1).toNat
/-- The op that the document's Get reads ahead of the look whether it is just these bytes. -/
def refR (l : List Int) : OpR :=
  if saidR l 0 1 = 1 then ⟨1, 0, 0, 0, newsL l 2 (newsN l), putsL l (putsAt l + 1) (putsN l)⟩
  else if saidR l 0 1 = 2 then ⟨2, saidR l 1 2, saidR l 3 2, 0, [], []⟩
  else ⟨saidR l 0 1, 0, 0, saidR l 1 4, [], []⟩
theorem readL_at (p x t : List Int) (a k : Nat) (ha : p.length = a) (hk : x.length = k) : readL (p ++ (x ++ t)) a k = x := by
  subst ha hk
  apply List.ext_getElem?
  intro j
  unfold readL
  rw [List.getElem?_map]
  by_cases hj : j < x.length
  · rw [List.getElem?_range hj, List.getElem?_eq_getElem hj]
    simp only [Option.map_some, List.getD_eq_getElem?_getD]
    rw [List.getElem?_append_right (by omega), Nat.add_sub_cancel_left, List.getElem?_append_left hj, List.getElem?_eq_getElem hj]
    rfl
  · rw [List.getElem?_eq_none (by simp; omega), List.getElem?_eq_none (by omega)]; rfl
theorem saidR_at (p t : List Int) (a s : Nat) (x : Int) (ha : p.length = a) (h1 : 0 ≤ x) (h2 : x < 256 ^ s) : saidR (p ++ (be s x ++ t)) a s = x := by
  unfold saidR
  rw [readL_at p (be s x) t a s ha (be_len s x), num_be, Int.emod_eq_of_lt h1 h2]
theorem freshL_at (p t : List Int) (a : Nat) (f : Fr) (ha : p.length = a) (h : DF f) : freshL (p ++ (encF f ++ t)) a = f := by
  obtain ⟨h1, h2, h3, h4, h5⟩ := h
  have e0 : readL (p ++ (encF f ++ t)) a 32 = f.k := by
    have := readL_at p f.k (be 4 f.a ++ (be 2 f.n ++ be 1 f.u) ++ t) a 32 ha h1
    unfold encF
    simpa only [List.append_assoc] using this
  have e1 : saidR (p ++ (encF f ++ t)) (a + 32) 4 = f.a := by
    have := saidR_at (p ++ f.k) ((be 2 f.n ++ be 1 f.u) ++ t) (a + 32) 4 f.a (by rw [List.length_append]; omega) h2.1 (by omega)
    unfold encF
    simpa only [List.append_assoc] using this
  have e2 : saidR (p ++ (encF f ++ t)) (a + 36) 2 = f.n := by
    have := saidR_at (p ++ f.k ++ be 4 f.a) (be 1 f.u ++ t) (a + 36) 2 f.n (by simp only [List.length_append, be_len]; omega) h3.1 (by omega)
    unfold encF
    simpa only [List.append_assoc] using this
  have e3 : saidR (p ++ (encF f ++ t)) (a + 38) 1 = f.u := by
    have := saidR_at (p ++ f.k ++ be 4 f.a ++ be 2 f.n) t (a + 38) 1 f.u (by simp only [List.length_append, be_len]; omega) h4.1 (by omega)
    unfold encF
    simpa only [List.append_assoc] using this
  unfold freshL
  rw [e0, e1, e2, e3]
  cases f
  simp only at h5
  rw [h5]
theorem putL_at (p t : List Int) (a : Nat) (f : Pu) (ha : p.length = a) (h : DP f) : putL (p ++ (encP f ++ t)) a = f := by
  obtain ⟨h1, h2, h3, h4⟩ := h
  have e0 : saidR (p ++ (encP f ++ t)) a 2 = f.x := by
    have := saidR_at p ((f.k ++ (be 1 f.o ++ be 1 f.m)) ++ t) a 2 f.x ha h1.1 (by omega)
    unfold encP
    simpa only [List.append_assoc] using this
  have e1 : readL (p ++ (encP f ++ t)) (a + 2) 32 = f.k := by
    have := readL_at (p ++ be 2 f.x) f.k ((be 1 f.o ++ be 1 f.m) ++ t) (a + 2) 32 (by simp only [List.length_append, be_len]; omega) h2
    unfold encP
    simpa only [List.append_assoc] using this
  have e2 : saidR (p ++ (encP f ++ t)) (a + 34) 1 = f.o := by
    have := saidR_at (p ++ be 2 f.x ++ f.k) (be 1 f.m ++ t) (a + 34) 1 f.o (by simp only [List.length_append, be_len]; omega) h3.1 (by omega)
    unfold encP
    simpa only [List.append_assoc] using this
  have e3 : saidR (p ++ (encP f ++ t)) (a + 35) 1 = f.m := by
    have := saidR_at (p ++ be 2 f.x ++ f.k ++ be 1 f.o) t (a + 35) 1 f.m (by simp only [List.length_append, be_len]; omega) h4.1 (by omega)
    unfold encP
    simpa only [List.append_assoc] using this
  unfold putL
  rw [e0, e1, e2, e3]
theorem newsL_at : ∀ (L : List Fr) (p t : List Int) (a : Nat), p.length = a → (∀ f ∈ L, DF f) → newsL (p ++ (L.flatMap encF ++ t)) a L.length = L
  | [], _, _, _, _, _ => rfl
  | f :: L, p, t, a, ha, h => by
    have hf := h f List.mem_cons_self
    have ih := newsL_at L (p ++ encF f) t (a + 39) (by rw [List.length_append, encF_len hf.1, ha]) fun g hg => h g (List.mem_cons_of_mem _ hg)
    have e1 := freshL_at p (L.flatMap encF ++ t) a f ha hf
    unfold newsL at ih ⊢
    rw [List.length_cons, List.range_succ_eq_map, List.map_cons, List.map_map, List.flatMap_cons]
    rw [List.append_assoc] at ih
    rw [List.append_assoc, Nat.zero_mul, Nat.add_zero, e1]
    congr 1
    refine Eq.trans (List.map_congr_left fun i _ => ?_) ih
    simp only [Function.comp_apply]
    rw [show a + Nat.succ i * 39 = a + 39 + i * 39 by omega]
theorem putsL_at : ∀ (L : List Pu) (p t : List Int) (a : Nat), p.length = a → (∀ f ∈ L, DP f) → putsL (p ++ (L.flatMap encP ++ t)) a L.length = L
  | [], _, _, _, _, _ => rfl
  | f :: L, p, t, a, ha, h => by
    have hf := h f List.mem_cons_self
    have ih := putsL_at L (p ++ encP f) t (a + 36) (by rw [List.length_append, encP_len hf.2.1, ha]) fun g hg => h g (List.mem_cons_of_mem _ hg)
    have e1 := putL_at p (L.flatMap encP ++ t) a f ha hf
    unfold putsL at ih ⊢
    rw [List.length_cons, List.range_succ_eq_map, List.map_cons, List.map_map, List.flatMap_cons]
    rw [List.append_assoc] at ih
    rw [List.append_assoc, Nat.zero_mul, Nat.add_zero, e1]
    congr 1
    refine Eq.trans (List.map_congr_left fun i _ => ?_) ih
    simp only [Function.comp_apply]
    rw [show a + Nat.succ i * 36 = a + 36 + i * 36 by omega]
theorem refR_enc {o : OpR} (h : DO o) : refR (enc o) = o := by
  obtain ⟨h1, h2, h3, h4, h5⟩ := h
  have hk : saidR (enc o) 0 1 = o.kd := by
    unfold enc
    exact saidR_at [] _ 0 1 o.kd rfl h1.1 (by omega)
  unfold refR
  by_cases k1 : o.kd = 1
  · obtain ⟨a1, a2, a3, a4, a5, a6, a7⟩ := h2 k1
    have he : enc o = be 1 o.kd ++ (be 1 o.news.length ++ (o.news.flatMap encF ++ (be 1 o.puts.length ++ o.puts.flatMap encP))) := by
      unfold enc encRow
      rw [if_pos k1]
      simp only [List.append_assoc]
    have en : newsN (enc o) = o.news.length := by
      unfold newsN
      rw [he, saidR_at (be 1 o.kd) _ 1 1 o.news.length (be_len _ _) (by omega) (by omega)]
      rfl
    have ea : putsAt (enc o) = 2 + o.news.length * 39 := by unfold putsAt; rw [en]
    have hfl : (o.news.flatMap encF).length = o.news.length * 39 := flat_len _ fun f hf => encF_len (a6 f hf).1
    have em : putsN (enc o) = o.puts.length := by
      unfold putsN
      rw [ea, he]
      have := saidR_at (be 1 o.kd ++ be 1 o.news.length ++ o.news.flatMap encF) (o.puts.flatMap encP) (2 + o.news.length * 39) 1 o.puts.length (by simp only [List.length_append, be_len, hfl] <;> omega) (by omega) (by omega)
      simp only [List.append_assoc] at this
      rw [this]
      rfl
    have e1 : newsL (enc o) 2 o.news.length = o.news := by
      rw [he]
      have := newsL_at o.news (be 1 o.kd ++ be 1 o.news.length) (be 1 o.puts.length ++ o.puts.flatMap encP) 2 (by simp [be_len]) a6
      simpa only [List.append_assoc] using this
    have e2 : putsL (enc o) (2 + o.news.length * 39 + 1) o.puts.length = o.puts := by
      rw [he]
      have := putsL_at o.puts (be 1 o.kd ++ be 1 o.news.length ++ o.news.flatMap encF ++ be 1 o.puts.length) [] (2 + o.news.length * 39 + 1) (by simp only [List.length_append, be_len, hfl] <;> omega) a7
      simpa only [List.append_assoc, List.append_nil] using this
    rw [hk, if_pos k1, en, em, ea, e1, e2]
    cases o
    simp only at a1 a2 a3 k1
    rw [a1, a2, a3, k1]
  · obtain ⟨b1, b2⟩ := h4 k1
    by_cases k2 : o.kd = 2
    · obtain ⟨c1, c2, c3⟩ := h3 k2
      have he : enc o = be 1 o.kd ++ (be 2 o.at_ ++ be 2 o.n) := by
        unfold enc
        rw [if_neg k1, if_pos k2]
      have e1 : saidR (enc o) 1 2 = o.at_ := by rw [he]; exact saidR_at (be 1 o.kd) _ 1 2 o.at_ (be_len _ _) c1.1 (by omega)
      have e2 : saidR (enc o) 3 2 = o.n := by
        rw [he]
        have := saidR_at (be 1 o.kd ++ be 2 o.at_) [] 3 2 o.n (by simp [be_len]) c2.1 (by omega)
        simpa only [List.append_assoc, List.append_nil] using this
      rw [hk, if_neg k1, if_pos k2, e1, e2]
      cases o
      simp only at b1 b2 c3 k2
      rw [b1, b2, c3, k2]
    · obtain ⟨c1, c2, c3, c4⟩ := h5 k1 k2
      have he : enc o = be 1 o.kd ++ be 4 o.sn := by
        unfold enc
        rw [if_neg k1, if_neg k2]
      have e1 : saidR (enc o) 1 4 = o.sn := by
        rw [he]
        have := saidR_at (be 1 o.kd) [] 1 4 o.sn (be_len _ _) c3 (by omega)
        simpa only [List.append_nil] using this
      rw [hk, if_neg k1, if_neg k2, e1]
      cases o
      simp only at b1 b2 c1 c2
      rw [b1, b2, c1, c2]
theorem refR_ko (l : List Int) : KO (refR l) := by
  unfold refR
  split
  · refine ⟨fun f hf => ?_, fun f hf => ?_⟩
    · obtain ⟨i, _, rfl⟩ := List.mem_map.1 hf
      exact readL_len _ _ _
    · obtain ⟨i, _, rfl⟩ := List.mem_map.1 hf
      exact readL_len _ _ _
  · split
    · exact ⟨fun f hf => (by cases hf), fun f hf => (by cases hf)⟩
    · exact ⟨fun f hf => (by cases hf), fun f hf => (by cases hf)⟩
/-- The document's way tells what the program's tells. -/
theorem dec_ref {l : List Int} (hb : Byt l) : dec l = if rightB (refR l) = true ∧ enc (refR l) = l then some (refR l) else none := by
  split
  · rename_i h
    have := dec_enc h.1 (refR_ko l)
    rwa [h.2] at this
  · rename_i h
    cases hd : dec l with
    | none => rfl
    | some o =>
      obtain ⟨h1, h2, h3⟩ := dec_some hd hb
      have e := refR_enc h3
      rw [h2] at e
      exact absurd ⟨by rw [e]; exact h1, by rw [e]; exact h2⟩ h
end Go.Proofs.YthdllbbjajddiaaGreatDoor
namespace Go.Proofs.YthdllbbjajddiaaGreatDoor
open Go.RowKit Go.Maps Go.WideMaps
theorem buildPl (a n u : Int) (w : World) : BuildRun Tryz.prog 51 #[(0, .int .i64 a), (1, .int .i64 n), (2, .int .i64 u)] w (.agg #[.int .i64 a, .int .i64 n, .int .i64 u, .int .i64 0]) := ⟨by kernel_rfl⟩
theorem buildFr (k : List Int) (a n u : Int) (hk : k.length = 32) (w : World) : BuildRun Tryz.prog 53 #[(0, kv k), (1, .agg #[.int .i64 a, .int .i64 n, .int .i64 u, .int .i64 0])] w (.agg (frC ⟨k, a, n, u, 0⟩).toArray) := by
  obtain ⟨a0, a1, a2, a3, a4, a5, a6, a7, a8, a9, a10, a11, a12, a13, a14, a15, a16, a17, a18, a19, a20, a21, a22, a23, a24, a25, a26, a27, a28, a29, a30, a31, rfl⟩ := len32 k hk
  exact ⟨by kernel_rfl⟩
theorem buildSl (k : List Int) (o m : Int) (hk : k.length = 32) (w : World) : BuildRun Tryz.prog 46 #[(0, kv k), (1, .int .i64 o), (2, .int .i64 m)] w (.agg (slC k o m).toArray) := by
  obtain ⟨a0, a1, a2, a3, a4, a5, a6, a7, a8, a9, a10, a11, a12, a13, a14, a15, a16, a17, a18, a19, a20, a21, a22, a23, a24, a25, a26, a27, a28, a29, a30, a31, rfl⟩ := len32 k hk
  exact ⟨by kernel_rfl⟩
theorem buildPu (x : Int) (k : List Int) (o m : Int) (hk : k.length = 32) (w : World) : BuildRun Tryz.prog 48 #[(0, .int .i64 x), (1, .agg (slC k o m).toArray)] w (.agg (puC ⟨x, k, o, m⟩).toArray) := by
  obtain ⟨a0, a1, a2, a3, a4, a5, a6, a7, a8, a9, a10, a11, a12, a13, a14, a15, a16, a17, a18, a19, a20, a21, a22, a23, a24, a25, a26, a27, a28, a29, a30, a31, rfl⟩ := len32 k hk
  exact ⟨by kernel_rfl⟩
/-- What is read is a number that the model's int holds. -/
theorem said_bd {l : List Int} (hb : Byt l) (at_ s : Nat) (hs : s ≤ 4) : 0 ≤ saidR l at_ s ∧ saidR l at_ s < 4294967296 := by
  have h := num_bd (readL l at_ s) (readL_byt hb at_ s)
  rw [readL_len] at h
  have h3 : (256 : Int) ^ s ≤ 256 ^ 4 := by
    have : s = 0 ∨ s = 1 ∨ s = 2 ∨ s = 3 ∨ s = 4 := by omega
    rcases this with rfl | rfl | rfl | rfl | rfl <;> decide
  have h4 : (256 : Int) ^ 4 = 4294967296 := by decide
  unfold saidR
  omega
theorem said_wf {l : List Int} (hb : Byt l) (at_ s : Nat) (hs : s ≤ 4) : (Lit.int .i64 (saidR l at_ s)).wf = true := wf_i64 (by have := said_bd hb at_ s hs; omega)
theorem freshL_ok {l : List Int} (hb : Byt l) (at_ : Nat) : OkFr (freshL l at_) := ⟨⟨readL_len _ _ _, readL_byt hb _ _⟩, said_wf hb _ _ (by omega), said_wf hb _ _ (by omega), said_wf hb _ _ (by omega), wf00⟩
theorem putL_ok {l : List Int} (hb : Byt l) (at_ : Nat) : OkPu (putL l at_) := ⟨said_wf hb _ _ (by omega), ⟨readL_len _ _ _, readL_byt hb _ _⟩, said_wf hb _ _ (by omega), said_wf hb _ _ (by omega)⟩
def elF {l : List Int} (hb : Byt l) (at_ : Nat) : ElF := ⟨freshL l at_, freshL_ok hb at_⟩
def elP {l : List Int} (hb : Byt l) (at_ : Nat) : ElP := ⟨putL l at_, putL_ok hb at_⟩
theorem newsL_el {l : List Int} (hb : Byt l) (at_ n : Nat) : newsL l at_ n = nl (fun i => elF hb (at_ + i * 39)) n := rfl
theorem putsL_el {l : List Int} (hb : Byt l) (at_ n : Nat) : putsL l at_ n = pl (fun i => elP hb (at_ + i * 36)) n := rfl
end Go.Proofs.YthdllbbjajddiaaGreatDoor
namespace Go.Proofs.YthdllbbjajddiaaGreatDoor
open Go.RowKit
theorem u8_nat {x y : Int} (hx : 0 ≤ x ∧ x < 256) (hy : 0 ≤ y ∧ y < 256) (h : UInt8.ofNat x.toNat = UInt8.ofNat y.toNat) : x = y := by
  have h1 := congrArg UInt8.toNat h
  rw [UInt8.toNat_ofNat', UInt8.toNat_ofNat'] at h1
  omega
theorem str_inj {a b : List Int} (ha : Byt a) (hb : Byt b) (h : Lib.bytesOf a = Lib.bytesOf b) : a = b := by
  have h1 : a.map (fun n : Int => UInt8.ofNat n.toNat) = b.map fun n : Int => UInt8.ofNat n.toNat := h
  clear h
  induction a generalizing b with
  | nil => cases b with
    | nil => rfl
    | cons y b => simp at h1
  | cons x a ih => cases b with
    | nil => simp at h1
    | cons y b =>
      rw [List.map_cons, List.map_cons] at h1
      injection h1 with h1 h2
      rw [u8_nat (ha x (List.mem_cons_self ..)) (hb y (List.mem_cons_self ..)) h1, ih (fun z hz => ha z (List.mem_cons_of_mem _ hz)) (fun z hz => hb z (List.mem_cons_of_mem _ hz)) h2]
theorem conv_arr {w : World} {B : Nat} {A : Option Addr} {n : Nat} {l : List Int} (c : Nat) (ha : Arr w B A n fun j => .int .u8 (l.getD j 0)) (hn : l.length = n) : (convert 30 9 (.slice A n c)).run Tryz.prog w = .ok (.string (strOfNums l)) w := by
  by_cases h0 : n = 0
  · subst h0
    obtain rfl : l = [] := List.eq_nil_of_length_eq_zero hn
    cases A with
    | none => exact run_convert_bytes_nil w 30 5 Tryz.underlying30 Tryz.underlying5 0 c 9 Tryz.underlying9
    | some a =>
      rw [run_convert_bytes_string w 30 9 5 (some a) 0 c Tryz.underlying30 Tryz.underlying5 Tryz.underlying9]
      exact run_bytesToString w a 0 c [] (run_loadCells_list (P := Tryz.prog) w a [] fun j v hj => by simp at hj)
  · obtain ⟨b, off, rfl, _, hc⟩ := ha (by omega)
    exact run_convert_bytes_arg w 30 5 Tryz.underlying30 Tryz.underlying5 b off n c l hn (fun i hi => hc i hi) 9 Tryz.underlying9
theorem own_at {w : World} {base n s k : Nat} {e : TypeId} {v : Value} {xs : List Value} (h : w.ownsRow base e s v n xs) (hk : v.ownBlock = some k) : ∃ cs, w.heap[k]? = some (.cells cs e (0, 0)) := by
  rcases h.2 with ⟨rfl, _⟩ | ⟨g, cap, cur, rfl, _, hg, _⟩
  · cases hk
  · have e1 : g = k := by simpa [Value.ownBlock] using hk
    subst e1
    exact ⟨_, hg⟩
theorem own_ne {w : World} {base n s base2 n2 s2 k : Nat} {e e2 : TypeId} {v v2 : Value} {xs xs2 : List Value} (h : w.ownsRow base e s v n xs) (h2 : w.ownsRow base2 e2 s2 v2 n2 xs2) (he : e ≠ e2) (hk : v.ownBlock = some k) : v2.ownBlock ≠ some k := by
  obtain ⟨cs, hc⟩ := own_at h hk
  exact row_ne_cells h2 hc he
theorem got_rows {w w' : World} {l : List Int} {kd x n s : Int} {A1 : Option Addr} {n1 c1 : Nat} {I : Nat → ElF} {A2 : Option Addr} {n2 c2 : Nat} {P : Nat → ElP} (hb : Below w.heap.size w w') (hd : dec l = some (opR kd x n s I n1 P n2)) (h1 : n1 ≤ 255) (h2 : n2 ≤ 255)
    (r1 : w'.ownsRow w.heap.size 53 36 (.slice A1 n1 c1) n1 (flatS (fun i => cellsF (I i)) n1)) (r2 : w'.ownsRow w.heap.size 48 35 (.slice A2 n2 c2) n2 (flatS (fun i => cellsP (P i)) n2)) :
    GetP w l (.returned (.tuple #[opV kd x n s A1 n1 c1 A2 n2 c2, .int .i64 0])) w' := by
  obtain ⟨D1, s1, e1⟩ : ∃ D : Array ElF, D.size = n1 ∧ ∀ i, i < n1 → D[i]! = I i := by
    refine ⟨((List.range n1).map I).toArray, by simp, fun i hi => ?_⟩
    rw [getElem!_pos _ i (by simpa using hi)]
    simp
  obtain ⟨D2, s2, e2⟩ : ∃ D : Array ElP, D.size = n2 ∧ ∀ i, i < n2 → D[i]! = P i := by
    refine ⟨((List.range n2).map P).toArray, by simp, fun i hi => ?_⟩
    rw [getElem!_pos _ i (by simpa using hi)]
    simp
  subst s1 s2
  refine ⟨hb, .inr ⟨opR kd x n s I D1.size P D2.size, D1, A1, c1, D2, A2, c2, hd, rfl, ?_, ?_, h1, h2, ?_, ?_⟩⟩
  · rw [← nl_arr]
    exact List.map_congr_left fun i hi => by show (D1[i]!).val = _; rw [e1 i (List.mem_range.1 hi)]
  · rw [← pl_arr]
    exact List.map_congr_left fun i hi => by show (D2[i]!).val = _; rw [e2 i (List.mem_range.1 hi)]
  · rw [flatS_congr (G := fun i => cellsF (I i)) fun j hj => by show cellsF D1[j]! = _; rw [e1 j hj]]
    exact r1
  · rw [flatS_congr (G := fun i => cellsP (P i)) fun j hj => by show cellsP D2[j]! = _; rw [e2 j hj]]
    exact r2
end Go.Proofs.YthdllbbjajddiaaGreatDoor
