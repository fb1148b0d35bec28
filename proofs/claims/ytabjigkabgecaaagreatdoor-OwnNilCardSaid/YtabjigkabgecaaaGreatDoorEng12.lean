/-
  The abstract interpreter, its soundness: aggregates, slices.
-/
import Derived.Test.YtabjigkabgecaaaGreatDoorEng11
namespace Go.Eng
variable {P : Program} {D : Tab} {φ : Phi} {s : St} {w : World} {T : PT AV} {ρ : Operand → Value}

/-! ### Aggregates -/
theorem foldl_set : ∀ (vs : List Value) (j off : Nat) (us : List Value), off + j + vs.length ≤ us.length →
    (vs.zipIdx j).foldl (fun cs (x : Value × Nat) => cs.setIfInBounds (off + x.2) x.1) us.toArray = (us.take (off + j) ++ vs ++ us.drop (off + j + vs.length)).toArray
  | [], j, off, us, _ => by simp
  | v :: vs, j, off, us, h => by
    simp at h
    simp only [List.zipIdx_cons, List.foldl_cons]
    have e : us.toArray.setIfInBounds (off + j) v = (us.set (off + j) v).toArray := by simp
    rw [e, foldl_set vs (j + 1) off _ (by simp; omega)]
    have := list_seg_step us (off + j) v vs (by omega)
    simp only [List.length_cons] at this ⊢
    rw [show off + (j + 1) = off + j + 1 by omega, this]

theorem fillP_ok {pl : List (Nat × Nat)} {place : Nat → Option (Nat × Nat)} (hpl : ∀ i x, pl[i]? = some x → place i = some x) : ∀ (ps : List (Nat × AV)) (qs : List (Nat × Value)) (cells : List AV) (us : List Value) (cs : List AV),
    VRs φ cells us → ps.map (·.1) = qs.map (·.1) → VRs φ (ps.map (·.2)) (qs.map (·.2)) → fillP pl cells ps = some cs → ∃ us', Instr.fill place us.toArray qs = some us'.toArray ∧ VRs φ cs us'
  | [], [], cells, us, cs, hc, _, _, h => by simp [fillP] at h; subst h; exact ⟨us, by simp [Instr.fill], hc⟩
  | [], _ :: _, _, _, _, _, h, _, _ => by simp at h
  | _ :: _, [], _, _, _, _, h, _, _ => by simp at h
  | (i, v) :: ps, (i', u) :: qs, cells, us, cs, hc, hi, hv, h => by
    simp at hi
    obtain ⟨rfl, hi⟩ := hi
    cases hv with
    | cons hv hvs =>
      simp only [fillP] at h
      split at h
      · simp at h
      · rename_i off size hp
        split at h
        · rename_i hcond
          simp only [Bool.and_eq_true] at hcond
          have h1 := beq_true hcond.1
          have h2 := ble_true hcond.2
          have hvc := hv.cells
          have hl := hvc.length
          have hlc := hc.length
          have hsz : u.cells.size = size := by simp at hl; omega
          have hnew : VRs φ (cells.take off ++ v.cells ++ cells.drop (off + size)) (us.take off ++ u.cells.toList ++ us.drop (off + size)) := ((hc.take off).append hvc).append (hc.drop _)
          obtain ⟨us', g1, g2⟩ := fillP_ok hpl ps qs _ _ cs hnew hi hvs h
          refine ⟨us', ?_, g2⟩
          simp only [Instr.fill, hpl _ _ hp]
          rw [if_neg (by simp [hsz]; omega)]
          have := foldl_set u.cells.toList 0 off us (by simp; omega)
          have e : (u.cells.zipIdx.foldl (fun cs (x : Value × Nat) => cs.setIfInBounds (off + x.2) x.1) us.toArray) = (us.take off ++ u.cells.toList ++ us.drop (off + size)).toArray := by
            rw [← Array.foldl_toList, Array.toList_zipIdx]
            simp only [Nat.add_zero] at this
            rw [this]
            simp [hsz]
          exact (congrArg (fun a => Instr.fill place a qs) e).trans g1
        · simp at h

section
variable (hD : TabOk P D)
include hD

theorem placesA_ok (w : World) : ∀ (fs : List Field) (pl : List (Nat × Nat)), placesA D (fs.map fun f => (f.type, f.offset, f.name != "_")) = some pl →
    (fs.mapM fun f => do pure (f.offset, ← sizeOf f.type) : Sem (List (Nat × Nat))).run P w = .ok pl w
  | [], pl, h => by simp [placesA] at h; subst h; rfl
  | f :: fs, pl, h => by
    simp only [placesA, List.map_cons] at h
    split at h
    · rename_i i l hi hl
      simp at h
      subst h
      have ih := placesA_ok w fs l hl
      simp only [List.mapM_cons, Sem.run_bind, run_size hD hi, Sem.run_pure, Result.andThen_ok, ih]
    · simp at h

theorem build_struct {t : TypeId} {i : TyI} {fs : List (TypeId × Nat × Bool)} {z : AV} {pl : List (Nat × Nat)} {cs vs : List AV} {ps : Array (Nat × Operand)} {us : List Value} (hi : D.ty.get t = some i) (hz : i.zero = some z) (hd : i.d = .struct fs)
    (hp : placesA D fs = some pl) (hv : VRs φ vs us) (hul : us = ps.toList.map fun x => ρ x.2) (hf : fillP pl z.cells ((ps.toList.map (·.1)).zip vs) = some cs) (w : World) :
    ∃ u, VR φ (.agg cs) u ∧ (Instr.build t (ps.map fun (i, x) => (i, ρ x))).run P w = .ok u w := by
  obtain ⟨de, _, hde, hu⟩ := run_under hD hi w
  rw [hd] at hde
  obtain ⟨gs, rfl, rfl⟩ := tdOf_struct hde
  obtain ⟨zv, z1, z2⟩ := run_zero hD hi hz w
  have hpl := placesA_ok hD w gs.toList pl hp
  have hzc := (constAV_ok (φ := φ) z2).cells
  have hlen : vs.length = ps.toList.length := by rw [hv.length, hul]; simp
  have hlp : ps.toList.length = ps.size := by simp
  obtain ⟨us', g1, g2⟩ := fillP_ok (pl := pl) (place := fun i => (pl.toArray)[i]?) (fun i x h => by simpa using h) ((ps.toList.map (·.1)).zip vs) (ps.toList.map fun x => (x.1, ρ x.2)) z.cells zv.cells.toList cs hzc (by
    rw [List.map_fst_zip (by simp; omega)]; simp) (by
    rw [List.map_snd_zip (by simp; omega)]
    have : (ps.toList.map fun x => (x.1, ρ x.2)).map (·.2) = us := by rw [hul]; simp
    rw [this]; exact hv) hf
  refine ⟨_, .agg g2, ?_⟩
  have hm : (gs.mapM (fun f => do pure (f.offset, ← sizeOf f.type) : Field → Sem (Nat × Nat))).run P w = .ok pl.toArray w := by
    have : (gs.mapM (fun f => do pure (f.offset, ← sizeOf f.type) : Field → Sem (Nat × Nat))) = List.toArray <$> (gs.toList.mapM (fun f => do pure (f.offset, ← sizeOf f.type) : Field → Sem (Nat × Nat))) := by
      obtain ⟨l⟩ := gs
      simp
    rw [this, Sem.run_map, hpl]
    rfl
  simp only [Instr.build, Sem.run_bind, z1, hu, Result.andThen_ok, hm]
  have e : (ps.map fun (i, x) => (i, ρ x)).toList = ps.toList.map fun x => (x.1, ρ x.2) := by simp
  rw [e]
  simp only [Array.toArray_toList] at g1
  simp only [g1]
  rfl

omit hD in
theorem range_places (n k : Nat) : ∀ i x, ((List.range n).map fun i => (i * k, k))[i]? = some x → (fun i => some (i * k, k) : Nat → Option (Nat × Nat)) i = some x := by
  intro i x h
  simp only [List.getElem?_map, Option.map_eq_some_iff] at h
  obtain ⟨a, h1, rfl⟩ := h
  have hl : i < (List.range n).length := by
    rcases Nat.lt_or_ge i (List.range n).length with h | h
    · exact h
    · rw [List.getElem?_eq_none h] at h1; simp at h1
  rw [List.getElem?_eq_getElem hl] at h1
  simp at h1
  subst h1
  rfl

theorem build_array {t e : TypeId} {i ei : TyI} {n : Nat} {z : AV} {cs vs : List AV} {ps : Array (Nat × Operand)} {us : List Value} (hi : D.ty.get t = some i) (hz : i.zero = some z) (hd : i.d = .array n e) (hei : D.ty.get e = some ei)
    (hv : VRs φ vs us) (hul : us = ps.toList.map fun x => ρ x.2) (hf : fillP ((List.range n).map fun i => (i * ei.size, ei.size)) z.cells ((ps.toList.map (·.1)).zip vs) = some cs) (w : World) :
    ∃ u, VR φ (.agg cs) u ∧ (Instr.build t (ps.map fun (i, x) => (i, ρ x))).run P w = .ok u w := by
  obtain ⟨de, _, hde, hu⟩ := run_under hD hi w
  rw [hd] at hde
  obtain ⟨rfl⟩ : de = .array n e := by cases de <;> simp [tdOf] at hde; obtain ⟨rfl, rfl⟩ := hde; rfl
  obtain ⟨zv, z1, z2⟩ := run_zero hD hi hz w
  have hzc := (constAV_ok (φ := φ) z2).cells
  have hlen : vs.length = ps.toList.length := by rw [hv.length, hul]; simp
  have hlp : ps.toList.length = ps.size := by simp
  obtain ⟨us', g1, g2⟩ := fillP_ok (place := fun i => some (i * ei.size, ei.size)) (range_places n ei.size) ((ps.toList.map (·.1)).zip vs) (ps.toList.map fun x => (x.1, ρ x.2)) z.cells zv.cells.toList cs hzc (by
    rw [List.map_fst_zip (by simp; omega)]; simp) (by
    rw [List.map_snd_zip (by simp; omega)]
    have : (ps.toList.map fun x => (x.1, ρ x.2)).map (·.2) = us := by rw [hul]; simp
    rw [this]; exact hv) hf
  refine ⟨_, .agg g2, ?_⟩
  simp only [Instr.build, Sem.run_bind, z1, hu, Result.andThen_ok, run_size hD hei]
  have e : (ps.map fun (i, x) => (i, ρ x)).toList = ps.toList.map fun x => (x.1, ρ x.2) := by simp
  rw [e]
  simp only [Array.toArray_toList] at g1
  simp only [g1]
  rfl

end
end Go.Eng
