/- Arguments that are nested arrays and structs of numbers, opened: their cells are numbers of their kinds. -/
import Derived.Test.YtmckngkmlhemoaaC
import Derived.Test.YtmckngkmlhemoaaOpen
namespace Go.Proofs.Ytmckngkmlhemoaa
open Go.RowKit Go.ChangeShapes Go.WideShapes
section
variable {H : Type} {enc : TypeId × Value → H} {P : Program} {W : World} {base : Nat} {spare : Nat → Bool} {held : Bool}
theorem fits_parts {e : TypeId} {ks : List IntKind} {cs : List Value} (hl : ks.length = P.cellsOf e) : ∀ n, n * P.cellsOf e ≤ cs.length → (∀ i, i < n → Fits ((cs.drop (i * P.cellsOf e)).take (P.cellsOf e)) ks) → Fits (cs.take (n * P.cellsOf e)) (List.replicate n ks).flatten
  | 0, _, _ => by simp [Fits]
  | n + 1, hn, h => by
    have e0 : (n + 1) * P.cellsOf e = n * P.cellsOf e + P.cellsOf e := Nat.succ_mul _ _
    have e1 : (List.replicate (n + 1) ks).flatten = (List.replicate n ks).flatten ++ ks := by
      rw [List.replicate_succ', List.flatten_append]; simp
    have e4 : cs.take ((n + 1) * P.cellsOf e) = cs.take (n * P.cellsOf e) ++ (cs.drop (n * P.cellsOf e)).take (P.cellsOf e) := by
      rw [e0, List.take_add]
    rw [e1, e4]
    exact (fits_parts hl n (by omega) fun i hi => h i (by omega)).join (h n (by omega))
theorem fits_fields {cs : List Value} {Q : Field → List IntKind → Prop} (hQ : ∀ f ks, Q f ks → Fits ((cs.drop f.offset).take (P.cellsOf f.type)) ks) :
    ∀ (fs : List Field) (o : Nat) (kss : List (List IntKind)), offsOk P o fs = true → fs.length = kss.length → (∀ (i : Nat) (f : Field) (ks : List IntKind), fs[i]? = some f → kss[i]? = some ks → Q f ks ∧ ks.length = P.cellsOf f.type) → cs.length = o + kss.flatten.length → Fits (cs.drop o) kss.flatten
  | [], o, [], _, _, _, hlen => by
    simp at hlen
    simp [Fits, List.drop_eq_nil_of_le (show cs.length ≤ o by omega)]
  | [], _, _ :: _, _, hl, _, _ => by simp at hl
  | _ :: _, _, [], _, hl, _, _ => by simp at hl
  | f :: fs, o, ks :: kss, ho, hl, hall, hlen => by
    simp only [offsOk, Bool.and_eq_true, beq_iff_eq] at ho
    obtain ⟨⟨ho1, _⟩, ho2⟩ := ho
    obtain ⟨h1, h2⟩ := hall 0 f ks rfl rfl
    have h3 := hQ f ks h1
    rw [ho1] at h3
    have hlen2 : cs.length = o + P.cellsOf f.type + kss.flatten.length := by
      rw [hlen, List.flatten_cons, List.length_append, h2, Nat.add_assoc]
    have h4 := fits_fields hQ fs (o + P.cellsOf f.type) kss ho2 (by simpa using hl) (fun i f' ks' hf hk => hall (i + 1) f' ks' (by simpa using hf) (by simpa using hk)) hlen2
    have e : cs.drop o = (cs.drop o).take (P.cellsOf f.type) ++ cs.drop (o + P.cellsOf f.type) := by
      rw [← List.drop_drop, List.take_append_drop]
    rw [e, List.flatten_cons]
    exact h3.join h4
theorem mapM_some {α β : Type} {f : α → Option β} : ∀ {l : List α} {r : List β}, l.mapM f = some r → l.length = r.length ∧ ∀ (i : Nat) (a : α) (b : β), l[i]? = some a → r[i]? = some b → f a = some b
  | [], r, h => by
    simp at h
    subst h
    exact ⟨rfl, fun i a b ha _ => by simp at ha⟩
  | x :: l, r, h => by
    rw [List.mapM_cons] at h
    simp only [bind, Option.bind_eq_some_iff, pure, Option.some.injEq] at h
    obtain ⟨y, hy, r', hr, rfl⟩ := h
    obtain ⟨h1, h2⟩ := mapM_some hr
    refine ⟨by simp [h1], fun i a b ha hb => ?_⟩
    match i with
    | 0 =>
      simp at ha hb
      rw [← ha, ← hb]; exact hy
    | i + 1 => exact h2 i a b (by simpa using ha) (by simpa using hb)
theorem trod_fits : ∀ (d : Nat) (t : TypeId) (ks : List IntKind), leafs P d t = some ks → ∀ {fuel : Nat} {cs : List Value} {x : DataW H × List MemPlace}, DataW.trod enc P W base spare held fuel t cs = some x → Fits cs ks
  | 0, _, _, h, _, _, _, _ => by simp [leafs] at h
  | d + 1, t, ks, h, fuel, cs, x, ht => by
    have ih := trod_fits d
    unfold leafs at h
    cases hu : P.underlying t with
    | none => simp [hu] at h
    | some kd =>
      rw [hu] at h
      cases kd with
      | int q =>
        simp only [Option.some.injEq] at h
        subst h
        obtain ⟨n, rfl, _, hw⟩ := DataW.trod_int hu ht
        exact ⟨⟨n, rfl, hw⟩, trivial⟩
      | array n e =>
        simp only at h
        cases he : leafs P d e with
        | none => rw [he] at h; cases h
        | some k1 =>
          rw [he] at h
          simp only at h
          split at h
          · rename_i hc
            simp only [Option.some.injEq] at h
            subst h
            obtain ⟨xs, m, _, _, hlen, hxl, hg⟩ := DataW.trod_array hu ht
            have h1 := fits_parts (cs := cs) hc.1 n (by rw [hlen]; exact Nat.le_of_eq hc.2) fun i hi => ih e k1 he ((hg i hi).trans (List.getElem?_eq_getElem (by omega)))
            rwa [hc.2, ← hlen, List.take_length] at h1
          · cases h
      | struct fs =>
        simp only at h
        split at h
        · rename_i kss hk
          split at h
          · rename_i hc
            simp only [Option.some.injEq] at h
            subst h
            obtain ⟨xs, m, _, _, hlen, hxl, hg⟩ := DataW.trod_struct hu ht
            obtain ⟨hkl, hki⟩ := mapM_some hk
            have h1 := fits_fields (P := P) (cs := cs) (Q := fun f ks => Fits ((cs.drop f.offset).take (P.cellsOf f.type)) ks) (fun _ _ h => h) fs.toList 0 kss hc.1 hkl (fun i f k2 hf hk2 => by
              have h2 := hki i f k2 hf hk2
              simp only [Option.bind_eq_some_iff] at h2
              obtain ⟨k3, h3, h4⟩ := h2
              split at h4
              · rename_i h5
                simp only [Option.some.injEq] at h4
                subst h4
                have hf' : fs[i]? = some f := by rw [← Array.getElem?_toList]; exact hf
                have hi : i < fs.size := (Array.getElem?_eq_some_iff.1 hf').1
                exact ⟨ih f.type k3 h3 ((hg i f hf').trans (List.getElem?_eq_getElem (by omega))), h5⟩
              · cases h4) (by rw [hlen, ← hc.2]; simp)
            rwa [List.drop_zero] at h1
          · cases h
        · cases h
      | _ => cases h
/-- An argument that is a struct of numbers, however deep. -/
theorem open_deep {t : TypeId} {fs : Array Field} {ks : List IntKind} {d : Nat} {v : Value} {dd : DataW H} {ps : List MemPlace} {b0 : Nat} (hs : P.underlying t = some (.struct fs)) (hl : leafs P d t = some ks) (hok : Value.okWide P W .any b0 t v) (h : DataW.Trod enc P W base spare held t v dd ps) :
    ∃ cs : Array Value, v = .agg cs ∧ Fits cs.toList ks := by
  obtain ⟨cs, rfl, _⟩ := okWide_struct hs hok
  obtain ⟨fuel, hf⟩ := h
  exact ⟨cs, rfl, trod_fits d t ks hl hf⟩
end
end Go.Proofs.Ytmckngkmlhemoaa
