/-
  The abstract interpreter, its soundness: each operation.
-/
import Derived.Test.YtabjigkabgecaaaGreatDoorEng18
namespace Go.Eng
variable {P : Program} {D : Tab} {φ : Phi} {s : St} {w : World} {T : PT AV} {ρ : Operand → Value}

/-! ### Small operations -/
theorem pickA_ok (hr : Rel φ s w) (he : EvR φ T ρ) {c v : AV} {cv : Value} {a b : Operand} (hc : VR φ c cv) (h : pickA T c a b = some v) : ∃ r, cv = .bool r ∧ VR φ v (if r then ρ a else ρ b) := by
  unfold pickA at h
  split at h
  · cases hc; exact ⟨true, rfl, ev_ok hr he h⟩
  · cases hc; exact ⟨false, rfl, ev_ok hr he h⟩
  · simp at h

theorem unA_ok {op : UnOp} {x v : AV} {xv : Value} (hx : VR φ x xv) (h : unA op x = some v) : ∃ u, VR φ v u ∧ (Op.unary op xv).run P w = .ok u w := by
  unfold unA at h
  split at h
  · simp at h; subst h; cases hx; exact ⟨_, .bool _, by simp [Op.unary]⟩
  · simp only [Option.some.injEq] at h; subst h; cases hx; exact ⟨_, .int _ _, by simp [Op.unary, Op.intArith]⟩
  · simp only [Option.some.injEq] at h; subst h; cases hx; exact ⟨_, .int _ _, rfl⟩
  · simp at h

theorem nilCheckA_ok {x v : AV} {xv : Value} (hx : VR φ x xv) (h : nilCheckA x = some v) : VR φ v xv ∧ ((∃ a, xv = .pointer (some a)) ∨ ∃ f a c, xv = .func (.func f) a c) := by
  unfold nilCheckA at h
  split at h
  · simp at h; subst h; refine ⟨hx, ?_⟩; cases hx; exact .inl ⟨_, rfl⟩
  · simp at h; subst h; refine ⟨hx, ?_⟩; cases hx; exact .inr ⟨_, _, _, rfl⟩
  · simp at h

theorem extractA_ok {x v : AV} {xv : Value} {i : Nat} (hx : VR φ x xv) (h : extractA x i = some v) : ∃ u, VR φ v u ∧ (Instr.extract xv i).run P w = .ok u w := by
  unfold extractA at h
  split at h
  · cases hx with
    | tuple hs =>
      obtain ⟨u, h1, h2⟩ := hs.get i v h
      exact ⟨u, h2, by simp [Instr.extract, h1]⟩
  · simp at h

section
variable (hD : TabOk P D)
include hD

theorem allocA_ok (hr : Rel φ s w) {t : TypeId} {v : AV} {s' : St} (h : allocA D s t = some (v, s')) :
    ∃ φ' u w', VR φ' v u ∧ (Instr.alloc t true (.tuple #[])).run P w = .ok u w' ∧ Stp φ s w φ' s' w' ∧ Rel φ' s' w' := by
  unfold allocA at h
  split at h
  · rename_i i hi
    split at h
    · rename_i z hz
      simp at h
      obtain ⟨rfl, rfl⟩ := h
      obtain ⟨zv, z1, z2⟩ := run_zero hD hi hz w
      have hzc := (constAV_ok (φ := φ) z2).cells
      obtain ⟨φ', w', g1, g2, g3, g4⟩ := new_cells (P := P) hr hzc t
      refine ⟨φ', _, w', .ptr g4 0, ?_, g2, g3⟩
      have g1' : (newRow t zv.cells).run P w = .ok ⟨w.heap.size, 0, none⟩ w' := by simpa using g1
      simp [Instr.alloc, z1, newVar, g1']
    · simp at h
  · simp at h

omit hD in
theorem boxA_ok (hr : Rel φ s w) {x : AV} {xv : Value} (hx : VR φ x xv) (t : TypeId) : ∃ φ' u w', VR φ' (boxA s x).1 u ∧ (Instr.box t xv).run P w = .ok u w' ∧ Stp φ s w φ' (boxA s x).2 w' ∧ Rel φ' (boxA s x).2 w' := by
  obtain ⟨φ', w', g1, g2, g3, g4⟩ := new_cells (P := P) hr hx.cells t
  refine ⟨φ', _, w', .ptr g4 0, ?_, g2, g3⟩
  have g1' : (newRow t xv.cells).run P w = .ok ⟨w.heap.size, 0, none⟩ w' := by simpa using g1
  simp [Instr.box, newVar, g1']

theorem buildA_ok {t : TypeId} {vs : List AV} {us : List Value} {ps : Array (Nat × Operand)} {v : AV} (hv : VRs φ vs us) (hul : us = ps.toList.map fun x => ρ x.2) (h : buildA D t (ps.toList.map (·.1)) vs = some v) (w : World) :
    ∃ u, VR φ v u ∧ (Instr.build t (ps.map fun (i, x) => (i, ρ x))).run P w = .ok u w := by
  unfold buildA at h
  split at h
  · rename_i i hi
    split at h
    · rename_i z hz
      split at h
      · rename_i fs hd
        split at h
        · rename_i pl hp
          split at h
          · rename_i cs hf
            simp at h; subst h
            exact build_struct hD hi hz hd hp hv hul hf w
          · simp at h
        · simp at h
      · rename_i n e hd
        split at h
        · rename_i ei hei
          split at h
          · rename_i cs hf
            simp at h; subst h
            exact build_array hD hi hz hd hei hv hul hf w
          · simp at h
        · simp at h
      · simp at h
    · simp at h
  · simp at h

theorem ifaceA_ok {t : TypeId} {x v : AV} {xv : Value} (hx : VR φ x xv) (h : ifaceA D t x = some v) (w : World) : ∃ u, VR φ v u ∧ (Instr.makeInterface t xv).run P w = .ok u w := by
  unfold ifaceA at h
  split at h
  · rename_i i hi
    obtain ⟨d, _, hd, hu⟩ := run_under hD hi w
    split at h
    · simp at h
    · rename_i hni
      simp at h; subst h
      refine ⟨_, .iface t hx, ?_⟩
      rw [hd] at hni
      cases d <;> first | (simp [Instr.makeInterface, hu]; done) | (simp [tdOf] at hni; done)
  · simp at h

theorem fieldAddrA_ok {t : TypeId} {x v : AV} {xv : Value} {f : Nat} (hx : VR φ x xv) (h : fieldAddrA D t x f = some v) (w : World) : ∃ u, VR φ v u ∧ (Instr.fieldAt t xv f).run P w = .ok u w := by
  unfold fieldAddrA at h
  split at h
  · rename_i b o i hi
    obtain ⟨d, _, hd, hu⟩ := run_under hD hi w
    split at h
    · rename_i fs hid
      rw [hid] at hd
      obtain ⟨gs, rfl, rfl⟩ := tdOf_struct hd
      split at h
      · rename_i y hy
        split at h
        · rename_i fi hfi
          split at h
          · simp at h
          · rename_i m hm
            simp at h; subst h
            cases hx with
            | ptr hrb =>
              rename_i r sh
              simp only [List.getElem?_map, Option.map_eq_some_iff] at hy
              obtain ⟨g, hg, rfl⟩ := hy
              simp only at hfi
              have hg' : gs[f]? = some g := by simpa using hg
              have hsz := run_size hD hfi w
              refine ⟨.pointer (some ⟨r, sh + (o + g.offset), none⟩), .ptr hrb _, ?_⟩
              simp [Instr.fieldAt, hu, hg', Instr.sureAddr, fieldPlace, hsz, hm, add_addr, Nat.add_assoc]
        · simp at h
      · simp at h
    · simp at h
  · simp at h

theorem fieldA_ok {t : TypeId} {x v : AV} {xv : Value} {f : Nat} (hx : VR φ x xv) (h : fieldA D t x f = some v) (w : World) : ∃ u, VR φ v u ∧ (Instr.field t xv f).run P w = .ok u w := by
  unfold fieldA at h
  split at h
  · rename_i i hi
    obtain ⟨d, _, hd, hu⟩ := run_under hD hi w
    split at h
    · rename_i fs hid
      rw [hid] at hd
      obtain ⟨gs, rfl, rfl⟩ := tdOf_struct hd
      split at h
      · rename_i y hy
        split at h
        · rename_i fi hfi
          simp only [List.getElem?_map, Option.map_eq_some_iff] at hy
          obtain ⟨g, hg, rfl⟩ := hy
          simp only at hfi h
          have hg' : gs[f]? = some g := by simpa using hg
          have hxa : ∃ us : List Value, xv = .agg us.toArray := by
            unfold fieldOf at h
            split at h
            · cases hx; exact ⟨_, rfl⟩
            · simp at h
          obtain ⟨us, rfl⟩ := hxa
          obtain ⟨u, u1, u2⟩ := field_ok hD hfi hx h w
          exact ⟨u, u1, by simp [Instr.field, hu, hg', asAgg, u2]⟩
        · simp at h
      · simp at h
    · simp at h
  · simp at h

theorem indexAddrA_ok {t : TypeId} {x i v : AV} {xv iv : Value} (hx : VR φ x xv) (hi : VR φ i iv) (h : indexAddrA D t x i = some v) (w : World) : ∃ u, VR φ v u ∧ (Instr.indexAt t xv iv).run P w = .ok u w := by
  unfold indexAddrA at h
  split at h
  · rename_i ti n hti hn
    obtain ⟨d, _, hd, hu⟩ := run_under hD hti w
    obtain ⟨k, z, rfl, z0, rfl⟩ := natOf_ok hi hn
    split at h
    · rename_i len e hid
      rw [hid] at hd
      obtain rfl : d = .array len e := by cases d <;> simp [tdOf] at hd; obtain ⟨rfl, rfl⟩ := hd; rfl
      split at h
      · rename_i ei b o hei
        split at h
        · rename_i hl
          have hl := blt_true hl
          simp at h; subst h
          cases hx with
          | ptr hrb =>
            rename_i r sh
            have hsz := run_size hD hei w
            refine ⟨.pointer (some ⟨r, sh + (o + z.toNat * ei.size), none⟩), .ptr hrb _, ?_⟩
            have hz : z < len := by omega
            simp [Instr.indexAt, asIntOf, hu, Instr.sureAddr, z0, hz, hsz, add_addr, Nat.add_assoc]
        · simp at h
      · simp at h
    · rename_i e hid
      rw [hid] at hd
      obtain rfl : d = .slice e := by cases d <;> simp [tdOf] at hd; rw [hd]
      split at h
      · rename_i ei b o len cp hei
        split at h
        · rename_i hl
          have hl := blt_true hl
          simp at h; subst h
          cases hx with
          | slice hrb hc _ _ hle =>
            rename_i r sh c
            have hsz := run_size hD hei w
            refine ⟨.pointer (some ⟨r, sh + (o + z.toNat * ei.size), none⟩), .ptr hrb _, ?_⟩
            have hz : z < len := by omega
            simp [Instr.indexAt, asIntOf, hu, z0, hz, hsz, add_addr, Nat.add_assoc]
        · simp at h
      · simp at h
    · simp at h
  · simp at h

theorem indexA_ok {t : TypeId} {x i v : AV} {xv iv : Value} (hx : VR φ x xv) (hi : VR φ i iv) (h : indexA D t x i = some v) (w : World) : ∃ u, VR φ v u ∧ (Instr.index t xv iv).run P w = .ok u w := by
  unfold indexA at h
  split at h
  · rename_i ti n hti hn
    obtain ⟨d, _, hd, hu⟩ := run_under hD hti w
    obtain ⟨k, z, rfl, z0, rfl⟩ := natOf_ok hi hn
    split at h
    · rename_i len e hid
      rw [hid] at hd
      obtain rfl : d = .array len e := by cases d <;> simp [tdOf] at hd; obtain ⟨rfl, rfl⟩ := hd; rfl
      split at h
      · rename_i ei hei
        split at h
        · rename_i hl
          have hl := blt_true hl
          have hxa : ∃ us : List Value, xv = .agg us.toArray := by
            unfold fieldOf at h
            split at h
            · cases hx; exact ⟨_, rfl⟩
            · simp at h
          obtain ⟨us, rfl⟩ := hxa
          obtain ⟨u, u1, u2⟩ := field_ok hD hei hx h w
          have hsz := run_size hD hei w
          have hz : z < len := by omega
          exact ⟨u, u1, by simp [Instr.index, asIntOf, hu, z0, hz, hsz, u2]⟩
        · simp at h
      · simp at h
    · rename_i hid
      rw [hid] at hd
      obtain rfl : d = .string := by cases d <;> simp [tdOf] at hd; rfl
      split at h
      · rename_i b
        split at h
        · rename_i c hc
          simp at h; subst h
          cases hx
          have hb : b[z.toNat]? = some c := by
            have : z.toNat < b.data.toList.length := (List.getElem?_eq_some_iff.1 hc).1
            have hlt : z.toNat < b.size := this
            rw [getElem?_pos b z.toNat hlt]
            rw [List.getElem?_eq_getElem this] at hc
            have hc' : b.data[z.toNat] = c := by simpa using hc
            exact congrArg some hc'
          exact ⟨_, .int _ _, by simp [Instr.index, asIntOf, hu, z0, hb]⟩
        · simp at h
      · simp at h
    · simp at h
  · simp at h

theorem rangeA_ok (hr : Rel φ s w) {t : TypeId} {x v : AV} {xv : Value} {s' : St} (hx : VR φ x xv) (h : rangeA D s t x = some (v, s')) :
    ∃ φ' u w', VR φ' v u ∧ (Instr.range t xv).run P w = .ok u w' ∧ Stp φ s w φ' s' w' ∧ Rel φ' s' w' := by
  unfold rangeA at h
  split at h
  · rename_i i hi
    obtain ⟨d, _, hd, hu⟩ := run_under hD hi w
    split at h
    · rename_i k e hid
      rw [hid] at hd
      obtain rfl : d = .map k e := by cases d <;> simp [tdOf] at hd; obtain ⟨rfl, rfl⟩ := hd; rfl
      split at h
      · simp at h
        obtain ⟨rfl, rfl⟩ := h
        cases hx
        obtain ⟨φ', w', g1, g2, g3, g4⟩ := new_other (P := P) hr (.iter0 0 [] 0)
        refine ⟨φ', _, w', .ptr g4 0, ?_, g2, g3⟩
        have g1' : (newObj (.mapIter none 0 #[] 0)).run P w = .ok w.heap.size w' := g1
        simp only [Instr.range, Sem.run_bind, hu, Result.andThen_ok, Sem.run_pure, g1']
      · rename_i b
        split at h
        · rename_i es clock hb
          simp at h
          obtain ⟨rfl, rfl⟩ := h
          cases hx with
          | map hrb =>
            obtain ⟨fs, f1, f2⟩ := hr.map hb hrb
            obtain ⟨φ', w', g1, g2, g3, g4⟩ := new_other (P := P) hr (.iter1 hrb clock [] clock)
            refine ⟨φ', _, w', .ptr g4 0, ?_, g2, g3⟩
            have g1' : (newObj (.mapIter (some _) clock #[] clock)).run P w = .ok w.heap.size w' := g1
            simp only [Instr.range, Sem.run_bind, hu, Result.andThen_ok, run_getObj_of f1, Sem.run_pure]
            rw [g1']
            rfl
        · simp at h
      · simp at h
    · simp at h
  · simp at h

end
end Go.Eng
