/-
  The abstract interpreter, its soundness: slices, copy, clear, conversions.
  The abstract interpreter, its soundness: makeSlice, buildSlice, copy, clear, conversions, other operations.
  The abstract interpreter, its soundness: builtins, conversions.
  The abstract interpreter, its soundness: conversions; single operations.
  The abstract interpreter, its soundness: each operation.
-/
import Derived.Test.YtnhlppginnojfaaDoorEng8to14
set_option linter.unusedVariables false
set_option linter.unusedSimpArgs false
namespace Go.Eng
variable {P : Program} {D : Tab} {φ : Phi} {s : St} {w : World} {T : PT AV} {ρ : Operand → Value}
def OptR (φ : Phi) : Option AV → Option Value → Prop
 | none, none => True
 | some a, some v => VR φ a v
 | _, _ => False
theorem sliceBound_ok {k : IntKind} {n : Int} {y : Nat} (h0 : 0 ≤ n) (h1 : n.toNat ≤ y) (c : BoundsCode) : (Instr.sliceBound (.int k n) y c).run P w = .ok n.toNat w := by
 have : n ≤ y := by omega
 simp [Instr.sliceBound, asIntOf, h0, this]
theorem optInt_ok {d r : Nat} {a : Option AV} {v : Option Value} (hv : OptR φ a v) (h : optInt d a = some r) : (v = none ∧ r = d) ∨ ∃ k n, v = some (.int k n) ∧ 0 ≤ n ∧ n.toNat = r := by
 unfold optInt at h
 split at h
 ·simp at h; subst h
  cases v with
  | none => exact .inl ⟨rfl, rfl⟩
  | some v => simp [OptR] at hv
 ·rename_i k n
  split at h
  ·rename_i h0
   simp at h
   cases v with
   | none => simp [OptR] at hv
   | some v =>
    simp only [OptR] at hv
    cases hv
    exact .inr ⟨_, _, rfl, h0, h⟩
  ·simp at h
 ·simp at h
theorem sliceBounds_ok {isS : Bool} {len cap l h : Nat} {lo hi : Option AV} {lv hv : Option Value} (hl : OptR φ lo lv) (hh : OptR φ hi hv) (h1 : optInt 0 lo = some l) (h2 : optInt len hi = some h) (hlh : l ≤ h) (hhc : h ≤ cap) :
  (Instr.sliceBounds isS len cap lv hv none).run P w = .ok (l, h, cap) w := by
 rcases optInt_ok hl h1 with ⟨rfl, rfl⟩ | ⟨k, n, rfl, n0, rfl⟩
 ·rcases optInt_ok hh h2 with ⟨rfl, rfl⟩ | ⟨k', n', rfl, n0', rfl⟩
  ·simp [Instr.sliceBounds]
  ·simp [Instr.sliceBounds, sliceBound_ok n0' hhc]
 ·rcases optInt_ok hh h2 with ⟨rfl, rfl⟩ | ⟨k', n', rfl, n0', rfl⟩
  ·simp [Instr.sliceBounds, sliceBound_ok n0 hlh]
  ·simp [Instr.sliceBounds, sliceBound_ok n0' hhc, sliceBound_ok n0 hlh]
theorem sliceBounds3_ok {isS : Bool} {len cap l h : Nat} {lo hi : Option AV} {lv hv : Option Value} {k : IntKind} {m : Int} (hl : OptR φ lo lv) (hh : OptR φ hi hv) (hs : hv.isSome = true) (h1 : optInt 0 lo = some l) (h2 : optInt len hi = some h) (hlh : l ≤ h) (hm0 : 0 ≤ m) (hhm : h ≤ m.toNat) (hmc : m.toNat ≤ cap) :
  (Instr.sliceBounds isS len cap lv hv (some (.int k m))).run P w = .ok (l, h, m.toNat) w := by
 rcases optInt_ok hl h1 with ⟨rfl, rfl⟩ | ⟨k1, n, rfl, n0, rfl⟩
 ·rcases optInt_ok hh h2 with ⟨rfl, rfl⟩ | ⟨k', n', rfl, n0', rfl⟩
  ·simp at hs
  ·simp [Instr.sliceBounds, sliceBound_ok hm0 hmc, sliceBound_ok n0' hhm]
 ·rcases optInt_ok hh h2 with ⟨rfl, rfl⟩ | ⟨k', n', rfl, n0', rfl⟩
  ·simp at hs
  ·simp [Instr.sliceBounds, sliceBound_ok hm0 hmc, sliceBound_ok n0' hhm, sliceBound_ok n0 hlh]
theorem add_addr (r o k : Nat) : (⟨r, o, none⟩ : Addr).add k = ⟨r, o + k, none⟩ := by unfold Addr.add; split <;> simp_all
theorem sliceEx_ok {size b o c l h m r sh : Nat} {v : AV} (hr : φ.blk b = some (r, sh)) (hv : sliceEx size b o c l h m = some v) :
  l ≤ h ∧ h ≤ m ∧ m ≤ c ∧ VR φ v (.slice (if m = l then some ⟨r, sh + o, none⟩ else (some (⟨r, sh + o, none⟩ : Addr)).map (·.add (l * size))) (h - l) (m - l)) := by
 unfold sliceEx at hv
 split at hv
 ·rename_i hc
  simp only [Bool.and_eq_true] at hc
  have h1 := ble_true hc.1.1
  have h2 := ble_true hc.1.2
  have h3 := ble_true hc.2
  simp at hv
  subst hv
  refine ⟨h1, h2, h3, ?_⟩
  split
  ·rename_i hb
   have := beq_true hb
   rw [if_pos this]
   exact .slice hr (.exact _) _ _ (by omega)
  ·rename_i hb
   have : m ≠ l := by rintro rfl; simp at hb
   rw [if_neg this]
   simp only [Option.map_some, add_addr]
   rw [Nat.add_assoc]
   exact .slice hr (.exact _) _ _ (by omega)
 ·simp at hv
theorem natOf_ok {m : AV} {mv : Value} {n : Nat} (hm : VR φ m mv) (h : natOf m = some n) : ∃ k x, mv = .int k x ∧ 0 ≤ x ∧ x.toNat = n := by
 unfold natOf at h
 split at h
 ·split at h
  ·rename_i h0
   simp at h
   cases hm
   exact ⟨_, _, rfl, h0, h⟩
  ·simp at h
 ·simp at h
section
variable (hD : TabOk P D)
include hD
theorem sliceA_ok {t : TypeId} {x v : AV} {xv : Value} {lo hi mx : Option AV} {lv hv mv : Option Value} (hx : VR φ x xv) (hl : OptR φ lo lv) (hh : OptR φ hi hv) (hm : OptR φ mx mv) (h : sliceA D t x lo hi mx = some v) (w : World) :
  ∃ u, VR φ v u ∧ (Instr.sliceAt t xv lv hv mv).run P w = .ok u w := by
 unfold sliceA at h
 split at h
 ·simp at h
 ·rename_i i hi'
  obtain ⟨de, _, hde, hu⟩ := run_under hD hi' w
  split at h
  ·-- a string
   rename_i hid
   rw [hid] at hde
   obtain rfl : de = .string := by cases de <;> simp [tdOf] at hde; rfl
   split at h
   ·rename_i s0
    unfold sliceStr at h
    split at h
    ·rename_i l hh' h1 h2
     split at h
     ·rename_i hc
      simp only [Bool.and_eq_true] at hc
      simp at h
      subst h
      cases hx
      obtain rfl : mv = none := by cases mv with | none => rfl | some _ => simp [OptR] at hm
      have := sliceBounds_ok (P := P) (w := w) (isS := false) hl hh h1 h2 (ble_true hc.1) (ble_true hc.2)
      exact ⟨_, .str _, by simp [Instr.sliceAt, hu, Instr.slice, this]⟩
     ·simp at h
    ·simp at h
   ·simp at h
  ·rename_i e hid
   rw [hid] at hde
   obtain rfl : de = .slice e := by cases de <;> simp [tdOf] at hde; rw [hde]
   split at h
   ·simp at h
   ·rename_i ei hei
    have hsz := run_size hD hei w
    split at h
    ·-- a nil slice
     cases hx
     unfold sliceNil at h
     split at h
     ·rename_i h1 h2
      simp at h
      subst h
      obtain rfl : mv = none := by cases mv with | none => rfl | some _ => simp [OptR] at hm
      have := sliceBounds_ok (P := P) (w := w) (isS := true) (cap := 0) hl hh h1 h2 (Nat.le_refl _) (Nat.le_refl _)
      exact ⟨_, .nilslice, by simp [Instr.sliceAt, hu, Instr.slice, this, hsz]⟩
     ·rename_i va kk h1 h2
      simp at h
      subst h
      obtain ⟨mu, rfl⟩ : ∃ mu, mv = some mu := by cases mv with | none => simp [OptR] at hm | some mu => exact ⟨mu, rfl⟩
      obtain ⟨hu', rfl⟩ : ∃ mu, hv = some mu := by cases hv with | none => simp [OptR] at hh | some mu => exact ⟨mu, rfl⟩
      simp only [OptR] at hm
      cases hm
      have := sliceBounds3_ok (P := P) (w := w) (isS := true) (cap := 0) (k := kk) (m := 0) hl hh rfl h1 h2 (Nat.le_refl _) (by omega) (Nat.le_refl _) (Nat.le_refl _)
      exact ⟨_, .nilslice, by simp [Instr.sliceAt, hu, Instr.slice, this, hsz]⟩
     ·simp at h
    ·-- an empty one
     rename_i z
     cases hx with
     | slice0 _ a c hz =>
      unfold slice00 at h
      split at h
      ·rename_i h1 h2
       simp at h
       subst h
       obtain rfl : mv = none := by cases mv with | none => rfl | some _ => simp [OptR] at hm
       have := sliceBounds_ok (P := P) (w := w) (isS := true) (cap := c) hl hh h1 h2 (Nat.le_refl _) (Nat.zero_le _)
       by_cases hc0 : c = 0
       ·subst hc0
        exact ⟨_, .slice0 z a 0 hz, by simp [Instr.sliceAt, hu, Instr.slice, this, hsz]⟩
       ·exact ⟨_, .slice0 z (a.add (0 * ei.size)) c hz, by simp [Instr.sliceAt, hu, Instr.slice, this, hsz, hc0]⟩
      ·rename_i va kk h1 h2
       simp at h
       subst h
       obtain ⟨mu, rfl⟩ : ∃ mu, mv = some mu := by cases mv with | none => simp [OptR] at hm | some mu => exact ⟨mu, rfl⟩
       obtain ⟨hu', rfl⟩ : ∃ mu, hv = some mu := by cases hv with | none => simp [OptR] at hh | some mu => exact ⟨mu, rfl⟩
       simp only [OptR] at hm
       cases hm
       have := sliceBounds3_ok (P := P) (w := w) (isS := true) (cap := c) (k := kk) (m := 0) hl hh rfl h1 h2 (Nat.le_refl _) (by omega) (Nat.le_refl _) (Nat.zero_le _)
       exact ⟨_, .slice0 true a 0 (fun _ => rfl), by simp [Instr.sliceAt, hu, Instr.slice, this, hsz]⟩
      ·simp at h
    ·rename_i b o len cap
     cases hx with
     | slice hrb hc _ _ hle =>
      rename_i r sh c
      unfold sliceSl at h
      split at h
      ·rename_i l hh' h1 h2
       split at h
       ·obtain rfl : mv = none := by cases mv with | none => rfl | some _ => simp [OptR] at hm
        split at h
        ·rename_i c'
         cases hc
         obtain ⟨e1, e2, e3, e4⟩ := sliceEx_ok hrb h
         have := sliceBounds_ok (P := P) (w := w) (isS := true) (cap := c) hl hh h1 h2 e1 e2
         exact ⟨_, e4, by simp [Instr.sliceAt, hu, Instr.slice, this, hsz]⟩
        ·rename_i k sb
         cases hc with
         | var hk =>
          rename_i cp
          unfold sliceVar at h
          split at h
          ·rename_i hcond
           simp only [Bool.and_eq_true] at hcond
           have e1 := ble_true hcond.1
           have e2 := ble_true hcond.2
           have := sliceBounds_ok (P := P) (w := w) (isS := true) (cap := cp - sb) hl hh h1 h2 e1 (by omega)
           split at h
           ·rename_i hlt
            have e3 := blt_true hlt
            simp at h
            subst h
            have hne : ¬ cp - sb = l := by omega
            have hcr : CR φ (.var k (sb + l)) (cp - sb - l) := by
             have := CR.var (φ := φ) (s := sb + l) hk
             rwa [← Nat.sub_sub] at this
            refine ⟨_, VR.slice hrb hcr (o + l * ei.size) (hh' - l) (by omega), ?_⟩
            simp [Instr.sliceAt, hu, Instr.slice, this, hsz, hne, add_addr, Nat.add_assoc]
           ·rename_i hlt
            have e3 : ¬ l < len := fun hh => by
             have : Nat.blt l len = true := by simpa [Nat.blt_eq] using hh
             rw [this] at hlt
             simp at hlt
            simp at h
            subst h
            have e4 : hh' - l = 0 := by omega
            by_cases hc0 : cp - sb = l
            ·refine ⟨_, .slice0 false ⟨r, sh + o, none⟩ 0 (fun h => by cases h), ?_⟩
             rw [hc0] at this
             simp [Instr.sliceAt, hu, Instr.slice, this, hsz, hc0, e4]
            ·refine ⟨_, .slice0 false ((⟨r, sh + o, none⟩ : Addr).add (l * ei.size)) (cp - sb - l) (fun h => by cases h), ?_⟩
             simp [Instr.sliceAt, hu, Instr.slice, this, hsz, hc0, e4]
          ·simp at h
       ·rename_i ma
        split at h
        ·rename_i m ha hnm
         obtain ⟨mu, rfl⟩ : ∃ mu, mv = some mu := by cases mv with | none => simp [OptR] at hm | some mu => exact ⟨mu, rfl⟩
         obtain ⟨hu', rfl⟩ : ∃ mu, hv = some mu := by cases hv with | none => simp [OptR] at hh | some mu => exact ⟨mu, rfl⟩
         simp only [OptR] at hm
         obtain ⟨k', x', rfl, x0, rfl⟩ := natOf_ok hm hnm
         split at h
         ·rename_i c'
          cases hc
          obtain ⟨e1, e2, e3, e4⟩ := sliceEx_ok hrb h
          have := sliceBounds3_ok (P := P) (w := w) (isS := true) (cap := c) (k := k') (m := x') hl hh rfl h1 h2 e1 x0 e2 e3
          exact ⟨_, e4, by simp [Instr.sliceAt, hu, Instr.slice, this, hsz]⟩
         ·rename_i k sb
          obtain ⟨e1, e2, e3, e4⟩ := sliceEx_ok hrb h
          have := sliceBounds3_ok (P := P) (w := w) (isS := true) (cap := c) (k := k') (m := x') hl hh rfl h1 h2 e1 x0 e2 (by omega)
          exact ⟨_, e4, by simp [Instr.sliceAt, hu, Instr.slice, this, hsz]⟩
        ·simp at h
      ·simp at h
    ·simp at h
  ·rename_i n e hid
   rw [hid] at hde
   obtain rfl : de = .array n e := by cases de <;> simp [tdOf] at hde; obtain ⟨rfl, rfl⟩ := hde; rfl
   split at h
   ·simp at h
   ·rename_i ei hei
    have hsz := run_size hD hei w
    split at h
    ·rename_i b o l hh' h1 h2
     cases hx with
     | ptr hrb =>
      rename_i r sh
      obtain rfl : mv = none := by cases mv with | none => rfl | some _ => simp [OptR] at hm
      obtain ⟨e1, e2, e3, e4⟩ := sliceEx_ok hrb h
      have := sliceBounds_ok (P := P) (w := w) (isS := false) (cap := n) hl hh h1 h2 e1 e2
      refine ⟨_, e4, ?_⟩
      simp only [Instr.sliceAt, Sem.run_bind, hu, Result.andThen_ok, Instr.sureAddr, Sem.run_pure, this, hsz]
      congr 2
      split <;> simp
    ·simp at h
  ·simp at h
end
end Go.Eng

namespace Go.Eng
variable {P : Program} {D : Tab} {φ : Phi} {s : St} {w : World} {T : PT AV} {ρ : Operand → Value}
section
variable (hD : TabOk P D)
include hD
theorem makeSliceA_ok (hr : Rel φ s w) {t : TypeId} {l c v : AV} {lv cv : Value} {s' : St} (hl : VR φ l lv) (hc : VR φ c cv) (h : makeSliceA D s t l c = some (v, s')) :
  ∃ φ' u w', VR φ' v u ∧ (Instr.makeSlice t lv cv).run P w = .ok u w' ∧ Stp φ s w φ' s' w' ∧ Rel φ' s' w' := by
 unfold makeSliceA at h
 split at h
 ·rename_i i k n k' m hi
  split at h
  ·rename_i e hid
   obtain ⟨de, _, hde, hu⟩ := run_under hD hi w
   rw [hid] at hde
   obtain rfl : de = .slice e := by cases de <;> simp [tdOf] at hde; rw [hde]
   split at h
   ·rename_i ei hei
    split at h
    ·rename_i z hz
     split at h
     ·rename_i hcond
      simp only [Bool.and_eq_true, decide_eq_true_eq] at hcond
      obtain ⟨⟨⟨⟨h0, h1⟩, h2⟩, h3⟩, h4⟩ := hcond
      have h3 := ble_true h3
      have hzl := beq_true h4
      unfold pow48 at h3
      simp at h
      obtain ⟨rfl, rfl⟩ := h
      cases hl; cases hc
      obtain ⟨ti, t1, t2, t3, t4, t5⟩ := run_info hD hei w
      obtain ⟨zv, z1, z2⟩ := run_zero hD hei hz w
      have hzc := (constAV_ok (φ := φ) z2).cells
      have hzs : zv.cells.toList.length = ei.size := by rw [← hzc.length]; exact hzl
      have hzeros := zeros_ok hzc m.toNat
      obtain ⟨φ', w', g1, g2, g3, g4⟩ := new_cells (P := P) hr hzeros e
      have hm0 : 0 ≤ m := by omega
      have wl : IntKind.i64.wrap n = n := by unfold IntKind.wrap; simp [IntKind.bits, IntKind.signed]; omega
      have wm : IntKind.i64.wrap m = m := by unfold IntKind.wrap; simp [IntKind.bits, IntKind.signed]; omega
      have hb : ¬ ((ti.bytes : Int) * m > 2 ^ 48) := by
       rw [t3] at h3
       have e : (ti.bytes : Int) * m = ((ti.bytes * m.toNat : Nat) : Int) := by
        rw [Int.natCast_mul, Int.toNat_of_nonneg hm0]
       rw [e]
       omega
      have hnle : ¬ n > m := by omega
      have hn0 : ¬ n < 0 := by omega
      have hm0' : ¬ m < 0 := by omega
      refine ⟨φ', _, w', VR.slice g4 (.exact m.toNat) 0 n.toNat (by omega), ?_, g2, g3⟩
      have hcond2 : ((decide (m < 0) || decide ((ti.bytes : Int) * m > 2 ^ 48)) || decide (n < 0) || decide (n > m)) = false := by
       simp [hm0', hn0, hnle]
       omega
      have hsz := run_size hD hei w
      simp only [Instr.makeSlice, Sem.run_bind, hu, Result.andThen_ok, asInt, asIntOf, Sem.run_pure, t5, wl, wm, hcond2, Bool.false_eq_true, if_false, run_askRoom, hsz]
      by_cases hz0 : m.toNat * ei.size = 0
      ·have : (zerosV zv.cells.toList m.toNat).length = 0 := by rw [zerosV_length, hzs]; exact hz0
       have h0' : zerosV zv.cells.toList m.toNat = [] := by cases hq : zerosV zv.cells.toList m.toNat <;> simp_all
       rw [h0'] at g1
       have e0 : Array.range 0 = #[] := Array.toList_inj.1 (by simp)
       simp only [hz0, if_true, e0]
       simp [g1]
      ·simp only [hz0, if_false, Sem.run_bind, z1, Sem.run_pure, Result.andThen_ok]
       have hrange := range_map_zeros zv.cells.toList m.toNat ei.size hzs
       simp only [Array.toArray_toList] at hrange
       rw [hrange, g1]
       simp
     ·simp at h
    ·simp at h
   ·simp at h
  ·simp at h
 ·simp at h
theorem buildSliceA_ok (hr : Rel φ s w) {t : TypeId} {n : Nat} {vs : List AV} {us : List Value} {ps : Array (Nat × Operand)} {v : AV} {s' : St} (hv : VRs φ vs us) (hul : us = ps.toList.map fun x => ρ x.2)
  (h : buildSliceA D s t n (ps.toList.map (·.1)) vs = some (v, s')) :
  ∃ φ' u w', VR φ' v u ∧ (Instr.buildSlice t n (ps.map fun (i, x) => (i, ρ x))).run P w = .ok u w' ∧ Stp φ s w φ' s' w' ∧ Rel φ' s' w' := by
 unfold buildSliceA at h
 split at h
 ·rename_i i hi
  split at h
  ·rename_i e hid
   obtain ⟨de, _, hde, hu⟩ := run_under hD hi w
   rw [hid] at hde
   obtain rfl : de = .slice e := by cases de <;> simp [tdOf] at hde; rw [hde]
   split at h
   ·rename_i ei hei
    split at h
    ·rename_i z hz
     split at h
     ·rename_i hcond
      simp only [Bool.and_eq_true] at hcond
      have h1 := ble_true hcond.1
      have hzl := beq_true hcond.2
      split at h
      ·rename_i cs hf
       simp at h
       obtain ⟨rfl, rfl⟩ := h
       obtain ⟨zv, z1, z2⟩ := run_zero hD hei hz w
       have hzc := (constAV_ok (φ := φ) z2).cells
       have hzs : zv.cells.toList.length = ei.size := by rw [← hzc.length]; exact hzl
       have hzeros := zeros_ok hzc n
       have hlen : vs.length = ps.toList.length := by rw [hv.length, hul]; simp
       have hlp : ps.toList.length = ps.size := by simp
       obtain ⟨us', g1, g2⟩ := fillP_ok (place := fun i => some (i * ei.size, ei.size)) (range_places n ei.size) ((ps.toList.map (·.1)).zip vs) (ps.toList.map fun x => (x.1, ρ x.2)) (zeros z.cells n) (zerosV zv.cells.toList n) cs hzeros (by
        rw [List.map_fst_zip (by simp; omega)]; simp) (by
        rw [List.map_snd_zip (by simp; omega)]
        have : (ps.toList.map fun x => (x.1, ρ x.2)).map (·.2) = us := by rw [hul]; simp
        rw [this]; exact hv) hf
       obtain ⟨φ', w', q1, q2, q3, q4⟩ := new_cells (P := P) hr g2 e
       refine ⟨φ', _, w', VR.slice q4 (.exact n) 0 n (Nat.le_refl _), ?_, q2, q3⟩
       have hsz := run_size hD hei w
       have hbig : ¬ n * ei.size > 2 ^ 24 := by omega
       have e1 : (ps.map fun (i, x) => (i, ρ x)).toList = ps.toList.map fun x => (x.1, ρ x.2) := by simp
       simp only [Instr.buildSlice, Sem.run_bind, hu, Result.andThen_ok, hsz, hbig, if_false, e1]
       by_cases hz0 : n * ei.size = 0
       ·have : (zerosV zv.cells.toList n).length = 0 := by rw [zerosV_length, hzs]; exact hz0
        have h0' : zerosV zv.cells.toList n = [] := by cases hq : zerosV zv.cells.toList n <;> simp_all
        rw [h0'] at g1
        have e0 : Array.range 0 = #[] := Array.toList_inj.1 (by simp)
        have g1' : Instr.fill (fun i => some (i * ei.size, ei.size)) ((Array.range 0).map fun i => (#[] : Array Value)[i % (#[] : Array Value).size]!) (ps.toList.map fun x => (x.1, ρ x.2)) = some us'.toArray := by
         rw [e0]; simpa using g1
        simp only [hz0, if_true, Sem.run_pure, Result.andThen_ok, g1', Sem.run_bind, q1]
       ·have hrange := range_map_zeros zv.cells.toList n ei.size hzs
        simp only [Array.toArray_toList] at hrange
        simp only [hz0, if_false, Sem.run_bind, z1, Sem.run_pure, Result.andThen_ok, hrange, g1, q1]
      ·simp at h
     ·simp at h
    ·simp at h
   ·simp at h
  ·simp at h
 ·simp at h
end
end Go.Eng

namespace Go.Eng
variable {P : Program} {D : Tab} {φ : Phi} {s : St} {w : World} {T : PT AV} {ρ : Operand → Value}
theorem maxA_ok : ∀ (r : List AV) (x v : AV) (g : Bool) (xv : Value) (us : List Value), VR φ x xv → VRs φ r us → maxA x r g = some v →
  ∃ u, VR φ v u ∧ ∀ w, (us.foldlM (if g then Builtin.max2 else Builtin.min2) xv).run P w = .ok u w
 | [], x, v, g, xv, us, hx, hr, h => by
  simp [maxA] at h
  subst h
  cases hr
  exact ⟨xv, hx, fun w => by simp⟩
 | y :: r, x, v, g, xv, us, hx, hr, h => by
  cases hr with
  | cons hy hr =>
   have key : ∃ k k' a b, x = .int k a ∧ y = .int k' b := by
    unfold maxA at h
    split at h
    ·simp at *
    ·rename_i hh
     exact ⟨_, _, _, _, rfl, (List.cons.inj hh).1⟩
    ·simp at h
   obtain ⟨k, k', a, b, rfl, rfl⟩ := key
   simp only [maxA] at h
   cases hx; cases hy
   obtain ⟨u, h1, h2⟩ := maxA_ok r _ v g _ _ (.int k _) hr h
   refine ⟨u, h1, fun w => ?_⟩
   cases g
   ·simp only [Bool.false_eq_true, if_false] at h2 ⊢
    simp [List.foldlM_cons, Builtin.min2, h2]
   ·simp only [if_true] at h2 ⊢
    simp [List.foldlM_cons, Builtin.max2, h2]
section
variable (hD : TabOk P D)
include hD
theorem lenA_ok (hr : Rel φ s w) {t : TypeId} {x v : AV} {xv : Value} (hx : VR φ x xv) (h : lenA D s t x = some v) (ty : TypeId) : ∃ u, VR φ v u ∧ (Builtin.len_ #[t] ty #[xv]).run P w = .ok u w := by
 unfold lenA at h
 split at h
 ·rename_i i hi
  obtain ⟨de, _, hde, hu⟩ := run_under hD hi w
  rw [hde] at h
  split at h
  all_goals first | (simp at h; done) | skip
  ·rename_i hd
   obtain rfl : de = .string := by cases de <;> simp [tdOf] at hd; rfl
   simp at h; subst h; cases hx
   exact ⟨_, .int _ _, by simp [Builtin.len_, hu, goInt]⟩
  ·rename_i e hd
   obtain rfl : de = .slice e := by cases de <;> simp [tdOf] at hd; rw [hd]
   simp at h; subst h; cases hx
   exact ⟨_, .int _ _, by simp [Builtin.len_, hu, goInt]⟩
  ·rename_i e _ _ _ _ hd
   obtain rfl : de = .slice e := by cases de <;> simp [tdOf] at hd; rw [hd]
   simp at h; subst h; cases hx
   exact ⟨_, .int _ _, by simp [Builtin.len_, hu, goInt]⟩
  ·rename_i e _ hd
   obtain rfl : de = .slice e := by cases de <;> simp [tdOf] at hd; rw [hd]
   simp at h; subst h; cases hx
   exact ⟨_, .int _ _, by simp [Builtin.len_, hu, goInt]⟩
  ·rename_i e b n cp hd
   obtain rfl : de = .slice e := by cases de <;> simp [tdOf] at hd; rw [hd]
   simp at h; subst h
   cases hx with
   | ssl0 _ _ hn => exact ⟨.int .i64 0, .tm _ _ hn, by simp [Builtin.len_, hu, goInt]⟩
   | ssl _ hn _ _ => exact ⟨.int .i64 _, .tm _ _ hn, by simp [Builtin.len_, hu, goInt]⟩
  ·rename_i k e hd
   obtain rfl : de = .map k e := by cases de <;> simp [tdOf] at hd; obtain ⟨rfl, rfl⟩ := hd; rfl
   simp at h; subst h; cases hx
   exact ⟨_, .int _ _, by simp [Builtin.len_, hu, goInt]⟩
  ·rename_i k e m hd
   obtain rfl : de = .map k e := by cases de <;> simp [tdOf] at hd; obtain ⟨rfl, rfl⟩ := hd; rfl
   split at h
   ·rename_i es ck hm
    simp at h; subst h
    cases hx with
    | map hrb =>
     obtain ⟨fs, g1, g2⟩ := hr.map hm hrb
     have hl := g2.length
     have e1 : es.length = fs.size := by simpa using hl
     exact ⟨_, .int _ _, by simp [Builtin.len_, hu, goInt, run_getObj_of g1, e1]⟩
   ·simp at h
  ·rename_i n e hd
   obtain rfl : de = .array n e := by cases de <;> simp [tdOf] at hd; obtain ⟨rfl, rfl⟩ := hd; rfl
   simp at h; subst h
   exact ⟨_, .int _ _, by cases hx <;> simp [Builtin.len_, hu, goInt]⟩
 ·simp at h
theorem capA_ok {t : TypeId} {x v : AV} {xv : Value} (hx : VR φ x xv) (h : capA D t x = some v) (ty : TypeId) (w : World) : ∃ u, VR φ v u ∧ (Builtin.cap_ #[t] ty #[xv]).run P w = .ok u w := by
 unfold capA at h
 split at h
 ·rename_i i hi
  obtain ⟨de, _, hde, hu⟩ := run_under hD hi w
  rw [hde] at h
  split at h
  ·rename_i e hd
   obtain rfl : de = .slice e := by cases de <;> simp [tdOf] at hd; rw [hd]
   simp at h; subst h; cases hx
   exact ⟨_, .int _ _, by simp [Builtin.cap_, hu, goInt]⟩
  ·rename_i e _ _ _ n hd
   obtain rfl : de = .slice e := by cases de <;> simp [tdOf] at hd; rw [hd]
   simp at h; subst h
   cases hx with
   | slice _ hc =>
    cases hc
    exact ⟨_, .int _ _, by simp [Builtin.cap_, hu, goInt]⟩
  ·rename_i e hd
   obtain rfl : de = .slice e := by cases de <;> simp [tdOf] at hd; rw [hd]
   simp at h; subst h
   cases hx with
   | slice0 _ a c hz =>
    obtain rfl := hz rfl
    exact ⟨_, .int _ _, by simp [Builtin.cap_, hu, goInt]⟩
  ·simp at h
 ·simp at h
theorem deleteA_all (hr : Rel φ s w) {t t2 : TypeId} {m k v : AV} {mv kv : Value} {s' : St} (hm : VR φ m mv) (hk : VR φ k kv) (h : deleteA D s t m k = some (v, s')) (ty : TypeId) :
  ∃ u w', VR φ v u ∧ (Builtin.delete_ #[t, t2] ty #[mv, kv]).run P w = .ok u w' ∧ Stp φ s w φ s' w' ∧ Rel φ s' w' := by
 unfold deleteA at h
 split at h
 ·rename_i i hi
  split at h
  ·rename_i kt et hid
   obtain ⟨d, sz, bb, zz, hh⟩ := i
   simp at hid
   subst hid
   split at h
   ·rename_i hko
    split at h
    ·simp at h
     obtain ⟨rfl, rfl⟩ := h
     cases hm
     have hu := mapTy hD hi w
     have hck := keyOk_ok hD hk hko true w
     exact ⟨_, w, .tuple .nil, by simp [Builtin.delete_, hu, hck], Stp.refl _ _ _, hr⟩
    ·rename_i b
     split at h
     ·rename_i es clock hb
      split at h
      ·simp at h
      ·rename_i j v' hf
       simp at h
       obtain ⟨rfl, rfl⟩ := h
       obtain ⟨w', w1, w2, w3⟩ := deleteA_ok hD hr hi hm hk hko hb hf (ats := #[t, t2]) rfl ty
       exact ⟨_, w', .tuple .nil, w1, w2, w3⟩
      ·rename_i hf
       simp at h
       obtain ⟨rfl, rfl⟩ := h
       obtain ⟨w', w1, w2, w3⟩ := deleteA_ok hD hr hi hm hk hko hb hf (ats := #[t, t2]) rfl ty
       exact ⟨_, w', .tuple .nil, w1, w2, w3⟩
     ·simp at h
    ·simp at h
   ·simp at h
  ·simp at h
 ·simp at h
omit hD in
theorem avLen_ok {x : AV} {xv : Value} {n : Nat} (hx : VR φ x xv) (h : avLen x = some n) (w : World) : (Builtin.lenOf xv).run P w = .ok n w := by
 unfold avLen at h
 split at h <;> simp at h <;> subst h <;> cases hx <;> simp [Builtin.lenOf]
omit hD in
theorem firstA_ok (hr : Rel φ s w) {size k : Nat} {y : AV} {yv : Value} {l : List AV} (hy : VR φ y yv) (h : firstA s.h size k y = some l) : ∃ us, VRs φ l us ∧ (Builtin.firstCells size k yv).run P w = .ok us.toArray w := by
 unfold firstA at h
 split at h
 ·simp at h; subst h; cases hy; exact ⟨[], .nil, by simp [Builtin.firstCells]⟩
 ·split at h
  ·simp at h; subst h; cases hy; exact ⟨[], .nil, by simp [Builtin.firstCells, loadCells, loadCellsFrom]⟩
  ·simp at h
 ·split at h
  ·rename_i c n tl hb
   split at h
   ·rename_i hn
    cases hy with
    | slice hrb hc =>
     obtain ⟨us, h1, h2, h3⟩ := read_cells (P := P) hr hb (ble_true hn) h hrb
     exact ⟨us, h1, by simp [Builtin.firstCells, h3]⟩
   ·simp at h
  ·simp at h
 ·rename_i t
  split at h
  ·simp only [Option.some.injEq] at h
   subst h
   cases hy
   refine ⟨(t.data.toList.take k).map fun x => .int .u8 x.toNat, ?_, ?_⟩
   ·induction t.data.toList.take k with
    | nil => exact .nil
    | cons a r ih => exact .cons (.int _ _) ih
   ·simp only [Builtin.firstCells, Sem.run_pure]
    congr 1
    apply Array.toList_inj.1
    simp [ByteArray.data_extract, List.map_take]
  ·simp at h
 ·simp at h
theorem copyA_ok (hr : Rel φ s w) {t t2 : TypeId} {x y v : AV} {xv yv : Value} {s' : St} (hx : VR φ x xv) (hy : VR φ y yv) (h : copyA D s t x y = some (v, s')) (ty : TypeId) :
  ∃ u w', VR φ v u ∧ (Builtin.copy_ #[t, t2] ty #[xv, yv]).run P w = .ok u w' ∧ Stp φ s w φ s' w' ∧ Rel φ s' w' := by
 unfold copyA at h
 split at h
 ·rename_i i hi
  split at h
  ·rename_i e hid
   obtain ⟨de, _, hde, hu⟩ := run_under hD hi w
   rw [hid] at hde
   obtain rfl : de = .slice e := by cases de <;> simp [tdOf] at hde; rw [hde]
   split at h
   ·rename_i ei hei
    have hsz := run_size hD hei w
    split at h
    ·rename_i n m hn hm
     have hlen := avLen_ok (P := P) hy hm w
     split at h
     ·rename_i new hf
      obtain ⟨us, f1, f2⟩ := firstA_ok (P := P) hr hy hf
      split at h
      ·simp at h
       obtain ⟨rfl, rfl⟩ := h
       cases hx
       simp [avLen] at hn
       subst hn
       simp only [Nat.min_zero] at f2
       refine ⟨_, w, .int _ _, ?_, Stp.refl _ _ _, hr⟩
       simp [Builtin.copy_, hu, hsz, hlen, f2, goInt]
      ·rename_i b o _ _
       split at h
       ·rename_i s1 hw
        simp at h
        obtain ⟨rfl, rfl⟩ := h
        simp [avLen] at hn
        cases hn
        cases hx with
        | slice hrb hc _ _ hle =>
         obtain ⟨w', w1, w2, w3⟩ := writeAll_ok (P := P) hr hw f1 hrb
         refine ⟨_, w', .int _ _, ?_, w2, w3⟩
         have hmin : Nat.min m n = min m n := rfl
         simp [Builtin.copy_, hu, hsz, hlen, hmin, f2, goInt, w1]
       ·simp at h
      ·simp at h
     ·simp at h
    ·simp at h
   ·simp at h
  ·simp at h
 ·simp at h
theorem clearA_ok (hr : Rel φ s w) {t : TypeId} {x v : AV} {xv : Value} {s' : St} (hx : VR φ x xv) (h : clearA D s t x = some (v, s')) (ty : TypeId) :
  ∃ u w', VR φ v u ∧ (Builtin.clear_ #[t] ty #[xv]).run P w = .ok u w' ∧ Stp φ s w φ s' w' ∧ Rel φ s' w' := by
 unfold clearA at h
 split at h
 ·rename_i i b o n cp hi
  obtain ⟨de, _, hde, hu⟩ := run_under hD hi w
  split at h
  ·rename_i e hid
   rw [hid] at hde
   obtain rfl : de = .slice e := by cases de <;> simp [tdOf] at hde; rw [hde]
   split at h
   ·rename_i ei hei
    split at h
    ·rename_i z hz
     split at h
     ·rename_i s1 hw
      simp at h
      obtain ⟨rfl, rfl⟩ := h
      cases hx with
      | slice hrb hc _ _ hle =>
       obtain ⟨zv, z1, z2⟩ := run_zero hD hei hz w
       have hzc := (constAV_ok (φ := φ) z2).cells
       obtain ⟨w', w1, w2, w3⟩ := writeAll_ok (P := P) hr hw (zeros_ok hzc (n + 1)) hrb
       have hzero : (Builtin.zeroCells zv.cells (n + 1)).toList = zerosV zv.cells.toList (n + 1) := by
        have := range_map_zeros zv.cells.toList (n + 1) zv.cells.size (by simp)
        have e : Builtin.zeroCells zv.cells (n + 1) = (zerosV zv.cells.toList (n + 1)).toArray := by simpa [Builtin.zeroCells] using this
        rw [e]
       refine ⟨_, w', .tuple .nil, ?_, w2, w3⟩
       simp [Builtin.clear_, hu, z1, hzero, w1]
     ·simp at h
    ·simp at h
   ·simp at h
  ·simp at h
 ·rename_i i b o cp hi
  obtain ⟨de, _, hde, hu⟩ := run_under hD hi w
  simp at h
  obtain ⟨rfl, rfl⟩ := h
  cases hx
  exact ⟨_, w, .tuple .nil, by simp [Builtin.clear_, hu], Stp.refl _ _ _, hr⟩
 ·rename_i i hi
  obtain ⟨de, _, hde, hu⟩ := run_under hD hi w
  simp at h
  obtain ⟨rfl, rfl⟩ := h
  cases hx
  exact ⟨_, w, .tuple .nil, by simp [Builtin.clear_, hu], Stp.refl _ _ _, hr⟩
 ·rename_i i hi
  obtain ⟨de, _, hde, hu⟩ := run_under hD hi w
  simp at h
  obtain ⟨rfl, rfl⟩ := h
  cases hx
  exact ⟨_, w, .tuple .nil, by simp [Builtin.clear_, hu], Stp.refl _ _ _, hr⟩
 ·rename_i i b hi
  obtain ⟨de, _, hde, hu⟩ := run_under hD hi w
  split at h
  ·rename_i es clock hb
   simp at h
   obtain ⟨rfl, rfl⟩ := h
   cases hx with
   | map hrb =>
    obtain ⟨fs, g1, g2⟩ := hr.map hb hrb
    obtain ⟨w', w1, w2, w3⟩ := hr.put_map (P := P) hb hrb (es' := []) (clock' := clock) (fs' := #[]) trivial
    refine ⟨_, w', .tuple .nil, ?_, w2, w3⟩
    simp [Builtin.clear_, hu, run_getObj_of g1, w1]
  ·simp at h
 ·simp at h
end
end Go.Eng

namespace Go.Eng
variable {P : Program} {D : Tab} {φ : Phi} {s : St} {w : World} {T : PT AV} {ρ : Operand → Value}
theorem bytes_loop (w : World) {f : Value → ByteArray → Sem (ForInStep ByteArray)} (hf : ∀ n r, f (.int .u8 n) r = pure (ForInStep.yield (r.push (UInt8.ofNat n.toNat)))) : ∀ (l : List AV) (us : List Value) (bs : List UInt8) (acc : ByteArray), VRs φ l us → asBytes l = some bs →
  (forIn us acc f).run P w = .ok ⟨acc.data ++ bs.toArray⟩ w
 | [], us, bs, acc, hv, h => by
  simp [asBytes] at h
  subst h
  cases hv
  simp
 | a :: l, us, bs, acc, hv, h => by
  cases hv with
  | cons hv hvs =>
   unfold asBytes at h
   split at h
   ·simp at *
   ·rename_i n r hh
    simp at hh
    obtain ⟨rfl, rfl⟩ := hh
    split at h
    ·rename_i b hb
     simp at h
     subst h
     cases hv
     have ih := bytes_loop w hf l _ b (acc.push (UInt8.ofNat n.toNat)) hvs hb
     simp only [List.forIn_cons, hf, Sem.run_bind, Sem.run_pure, Result.andThen_ok]
     rw [ih]
     simp [ByteArray.push]
    ·simp at h
   ·simp at h
theorem bytesOf_ok (hr : Rel φ s w) {x : AV} {xv : Value} {b : ByteArray} (hx : VR φ x xv) (h : bytesOf s x = some b) : (Conv.bytesToString xv).run P w = .ok (.string b) w := by
 unfold bytesOf at h
 split at h
 ·simp at h; subst h; cases hx; simp [Conv.bytesToString]
 ·split at h
  ·rename_i c n tl hb
   split at h
   ·rename_i hn
    split at h
    ·rename_i l hl
     split at h
     ·rename_i bs hbs
      simp at h
      subst h
      cases hx with
      | slice hrb hc =>
       obtain ⟨us, h1, h2, h3⟩ := read_cells (P := P) hr hb (ble_true hn) hl hrb
       simp only [Conv.bytesToString, Sem.run_bind, h3, Result.andThen_ok]
       have e : ∀ (f : Value → ByteArray → Sem (ForInStep ByteArray)), forIn us.toArray ByteArray.empty f = forIn us ByteArray.empty f := fun f => by simp
       rw [e]
       rw [bytes_loop (P := P) w (fun _ _ => rfl) l us bs ByteArray.empty h1 hbs]
       simp
     ·simp at h
    ·simp at h
   ·simp at h
  ·simp at h
 ·simp at h
theorem newBytes_ok (hr : Rel φ s w) (t : ByteArray) (e : TypeId) : ∃ φ' u w', VR φ' (newBytes s t).1 u ∧ (Conv.stringToBytes e t).run P w = .ok u w' ∧ Stp φ s w φ' (newBytes s t).2 w' ∧ Rel φ' (newBytes s t).2 w' := by
 obtain ⟨c, d, hc1, hc2, hdd⟩ := choose_cap (P := P) t.size 0 e w
 have hrd := hr.drawn d
 obtain ⟨h3, h4⟩ := hrd.setC c
 have hfr := h3.fresh s.nx (Nat.le_refl _)
 let us : List Value := t.data.toList.map fun b => .int .u8 b.toNat
 let rest : List Value := List.replicate (c - t.size) (.int .u8 0)
 have hul : us.length = t.size := by simp only [us, List.length_map]; rfl
 have hv : VRs ((φ.setC s.nc c).setB s.nx (w.heap.size, 0)) (t.data.toList.map fun b => .int .u8 b.toNat) us := by
  simp only [us]
  induction t.data.toList with
  | nil => exact .nil
  | cons a r ih => exact .cons (.int _ _) ih
 have hsz : (us ++ rest).toArray.size = c := by
  simp only [List.size_toArray, List.length_append, hul, rest, List.length_replicate]; omega
 have hcells : CellsR ((φ.setC s.nc c).setB s.nx (w.heap.size, 0)) 0 (PT.setAll .nil 0 (t.data.toList.map fun b => .int .u8 b.toNat)) t.size (us ++ rest).toArray := by
  refine CellsR.of_total (by rw [hsz]; omega) fun i hi => ?_
  have hl : (t.data.toList.map fun b => (AV.int .u8 b.toNat)).length = t.size := by rw [hv.length]; exact hul
  obtain ⟨u, g1, g2⟩ := hv.get i _ (List.getElem?_eq_getElem (by omega))
  refine ⟨_, u, ?_, ?_, g2⟩
  ·rw [PT.get_setAll, if_pos (by omega)]
   simp only [Nat.sub_zero]
   exact List.getElem?_eq_getElem (by omega)
  ·simp only [Nat.zero_add, List.getElem?_toArray]
   rw [List.getElem?_append_left (by omega)]
   exact g1
 have := h3.put_new (b := s.nx) (o := .cells (PT.setAll .nil 0 (t.data.toList.map fun b => .int .u8 b.toNat)) t.size (some (s.nc, 1))) (ro := .cells (us ++ rest).toArray e (c, c + 1)) hfr rfl (s' := (newBytes s t).2) rfl (by simp [newBytes]) (by simp [newBytes]) rfl
  (.tail (cp := c) hcells (by simp [Phi.setB, Phi.setC]) (by rw [hsz]; omega) (.inr ⟨rfl, by rw [hsz]; exact Nat.le_refl _⟩))
 have hb : ((φ.setC s.nc c).setB s.nx (w.heap.size, 0)).blk s.nx = some (w.heap.size, 0) := by simp [Phi.setB]
 have hcp : CR ((φ.setC s.nc c).setB s.nx (w.heap.size, 0)) (.var s.nc 0) (c - 0) := .var (by simp [Phi.setB, Phi.setC])
 refine ⟨_, .slice (some ⟨w.heap.size, 0, none⟩) t.size c, _, ?_, ?_, ((Stp.drawn φ s w d hdd).trans h4).trans this.2, this.1⟩
 ·simpa [newBytes] using VR.slice hb hcp 0 t.size (by omega)
 ·have e1 : (t.data.map fun b => (Value.int .u8 b.toNat)) ++ Array.replicate (c - t.size) (Value.int .u8 0) = (us ++ rest).toArray := by
   apply Array.toList_inj.1
   simp [us, rest]
  simp only [Conv.stringToBytes, Sem.run_bind, hc2, Result.andThen_ok, newRow, e1, run_newObj, Sem.run_pure]
  simp only [markStringish, Sem.run_bind, run_shape, World.shape?, Array.getElem?_push_size, hsz, Result.andThen_ok, run_freeze]
  congr 1
  simp only [World.freeze]
  rw [if_neg (by omega)]
  congr 1
  apply Array.ext
  ·simp
  ·intro i h1 h2
   simp only [Array.getElem_modify]
   simp at h2
   by_cases hi : i = w.heap.size
   ·subst hi
    simp
   ·have : i < w.heap.size := by omega
    simp [Array.getElem_push, this, Ne.symm hi]
section
variable (hD : TabOk P D)
include hD
theorem isByte_ok {e : TypeId} (h : isByte D e = true) (w : World) : (underlying e).run P w = .ok (.int .u8) w := by
 unfold isByte at h
 split at h
 ·rename_i i hi
  obtain ⟨d, hq, hd, hu⟩ := run_under hD hi w
  rw [hd] at h
  clear hq hd
  cases d <;> simp [tdOf] at h
  rename_i k
  cases k <;> simp at h
  exact hu
 ·simp at h
omit hD in
theorem markA_ok (hr : Rel φ s w) {x v : AV} {xv : Value} {s' : St} (hx : VR φ x xv) (h : markA s x = some (v, s')) :
  ∃ a n c, xv = .slice (some a) n c ∧ ∃ φ' w', (markStringish a).run P w = .ok () w' ∧ VR φ' v xv ∧ Stp φ s w φ' s' w' ∧ Rel φ' s' w' := by
 unfold markA at h
 split at h
 ·rename_i b o l cap
  split at h
  ·rename_i c n hb
   simp at h
   obtain ⟨rfl, rfl⟩ := h
   cases hx with
   | slice hrb hc _ _ hn =>
    rename_i r sh cc
    obtain ⟨r', sh', ro, g1, g2, g3⟩ := hr.objN hb (by simp)
    rw [hrb] at g1
    simp at g1
    obtain ⟨rfl, rfl⟩ := g1
    cases g3 with
    | cells hcells =>
     rename_i arr e
     have hle := hcells.1
     obtain ⟨h3, h4⟩ := hr.setC (arr.size - sh)
     have hext : φ.le (φ.setC s.nc (arr.size - sh)) := h4.ext
     obtain ⟨p1, p2⟩ := h3.put_old (b := b) (r := r) (sh := sh) (o := .cells c n (some (s.nc, 1))) (ro := .cells arr e (arr.size, arr.size + 1)) (by simp [ownB, hb]) (hext.blk _ _ hrb)
      (.tail (cp := arr.size - sh) (hcells.mono hext) (by simp [Phi.setC]) (by omega) (.inr ⟨rfl, Nat.le_refl _⟩)) (fun arr' e' fz' hx => by rw [g2] at hx; simp at hx; obtain ⟨rfl, rfl, _⟩ := hx; exact ⟨_, _, rfl, rfl⟩)
     refine ⟨_, _, _, rfl, _, _, ?_, (VR.slice hrb hc o l hn).mono hext, h4.trans p2, p1⟩
     have hlt := (Array.getElem?_eq_some_iff.1 g2).1
     have hsh : w.shape? r = some (e, arr.size) := by simp [World.shape?, g2]
     simp only [markStringish, Sem.run_bind, run_shape, hsh, Result.andThen_ok, run_freeze]
     congr 1
     simp only [World.freeze]
     rw [if_neg (by omega)]
     congr 1
     apply Array.ext
     ·simp
     ·intro i h1 h2
      simp only [Array.getElem_modify]
      by_cases hi : r = i
      ·subst hi
       have : w.heap[r] = .cells arr e (0, 0) := (Array.getElem?_eq_some_iff.1 g2).2
       simp [this]
      ·rw [if_neg hi, Array.getElem_setIfInBounds_ne (by simpa using h1) hi]
  ·simp at h
 ·simp at h
theorem convS_ok (hr : Rel φ s w) {a b : TypeId} {x v : AV} {xv : Value} {s' : St} (hx : VR φ x xv) (h : convS D s a b x = some (v, s')) :
  ∃ φ' u w', VR φ' v u ∧ (convert a b xv).run P w = .ok u w' ∧ Stp φ s w φ' s' w' ∧ Rel φ' s' w' := by
 unfold convS at h
 split at h
 ·rename_i i j hi hj
  obtain ⟨d1, _, e1, u1⟩ := run_under hD hi w
  obtain ⟨d2, _, e2, u2⟩ := run_under hD hj w
  rw [e1, e2] at h
  split at h
  ·rename_i k hk
   obtain rfl : d2 = .int k := by cases d2 <;> simp [tdOf] at hk; rw [hk]
   split at h
   ·simp at h
    obtain ⟨rfl, rfl⟩ := h
    cases hx
    exact ⟨φ, _, w, .int _ _, by simp [convert, u1, u2, Conv.intToInt], Stp.refl _ _ _, hr⟩
   ·simp at h
    obtain ⟨rfl, rfl⟩ := h
    cases hx with
    | @tm _ _ n ht => exact ⟨φ, .int k (k.wrap n), w, .tm k _ (by simp only [Tm.ev, ht]), by simp [convert, u1, u2, Conv.intToInt], Stp.refl _ _ _, hr⟩
   ·simp at h
  ·rename_i hk1 hk2
   obtain rfl : d1 = .string := by cases d1 <;> simp [tdOf] at hk1; rfl
   obtain rfl : d2 = .string := by cases d2 <;> simp [tdOf] at hk2; rfl
   split at h
   ·simp at h
    obtain ⟨rfl, rfl⟩ := h
    cases hx
    exact ⟨φ, _, w, .str _, by simp [convert, u1, u2], Stp.refl _ _ _, hr⟩
   ·simp at h
  ·rename_i e hk1 hk2
   obtain rfl : d1 = .slice e := by cases d1 <;> simp [tdOf] at hk1; rw [hk1]
   obtain rfl : d2 = .string := by cases d2 <;> simp [tdOf] at hk2; rfl
   split at h
   ·rename_i hb
    have hby := isByte_ok hD hb w
    split at h
    ·rename_i bs hbs
     simp at h
     obtain ⟨rfl, rfl⟩ := h
     have hrun := bytesOf_ok (P := P) hr hx hbs
     have hxs : ∃ a n c, xv = .slice a n c := by
      unfold bytesOf at hbs
      split at hbs
      ·cases hx; exact ⟨_, _, _, rfl⟩
      ·cases hx; exact ⟨_, _, _, rfl⟩
      ·simp at hbs
     obtain ⟨a1, n1, c1, rfl⟩ := hxs
     exact ⟨φ, _, w, .str _, by simp [convert, u1, u2, hby, hrun], Stp.refl _ _ _, hr⟩
    ·simp at h
   ·simp at h
  ·rename_i e hk1 hk2
   obtain rfl : d1 = .string := by cases d1 <;> simp [tdOf] at hk1; rfl
   obtain rfl : d2 = .slice e := by cases d2 <;> simp [tdOf] at hk2; rw [hk2]
   split at h
   ·rename_i hb
    have hby := isByte_ok hD hb w
    split at h
    ·rename_i t
     cases hx
     obtain ⟨φ', u, w', g1, g2, g3, g4⟩ := newBytes_ok (P := P) hr t e
     simp at h
     rw [h] at g1 g3 g4
     exact ⟨φ', u, w', g1, by simp [convert, u1, u2, hby, g2], g3, g4⟩
    ·simp at h
   ·simp at h
  ·rename_i e e' hk1 hk2
   obtain rfl : d1 = .slice e := by cases d1 <;> simp [tdOf] at hk1; rw [hk1]
   obtain rfl : d2 = .slice e' := by cases d2 <;> simp [tdOf] at hk2; rw [hk2]
   split at h
   ·rename_i hcond
    simp only [Bool.and_eq_true] at hcond
    have hab := beq_true hcond.1
    subst hab
    rw [u1] at u2
    simp at u2
    subst u2
    have hby := isByte_ok hD hcond.2 w
    obtain ⟨a1, n1, c1, rfl, φ', w', g1, g2, g3, g4⟩ := markA_ok (P := P) hr hx h
    exact ⟨φ', _, w', g2, by simp [convert, u1, hby, g1], g3, g4⟩
   ·simp at h
  ·simp at h
 ·simp at h
end
end Go.Eng

namespace Go.Eng
variable {P : Program} {D : Tab} {φ : Phi} {s : St} {w : World} {T : PT AV} {ρ : Operand → Value}
theorem pickA_ok (hr : Rel φ s w) (he : EvR φ T ρ) {c v : AV} {cv : Value} {a b : Operand} (hc : VR φ c cv) (h : pickA T c a b = some v) : ∃ r, cv = .bool r ∧ VR φ v (if r then ρ a else ρ b) := by
 unfold pickA at h
 split at h
 ·cases hc; exact ⟨true, rfl, ev_ok hr he h⟩
 ·cases hc; exact ⟨false, rfl, ev_ok hr he h⟩
 ·simp at h
theorem unA_ok {op : UnOp} {x v : AV} {xv : Value} (hx : VR φ x xv) (h : unA op x = some v) : ∃ u, VR φ v u ∧ (Op.unary op xv).run P w = .ok u w := by
 unfold unA at h
 split at h
 ·simp at h; subst h; cases hx; exact ⟨_, .bool _, by simp [Op.unary]⟩
 ·simp only [Option.some.injEq] at h; subst h; cases hx; exact ⟨_, .int _ _, by simp [Op.unary, Op.intArith]⟩
 ·simp only [Option.some.injEq] at h; subst h; cases hx; exact ⟨_, .int _ _, rfl⟩
 ·simp at h
theorem nilCheckA_ok {x v : AV} {xv : Value} (hx : VR φ x xv) (h : nilCheckA x = some v) : VR φ v xv ∧ ((∃ a, xv = .pointer (some a)) ∨ ∃ f a c, xv = .func (.func f) a c) := by
 unfold nilCheckA at h
 split at h
 ·simp at h; subst h; refine ⟨hx, ?_⟩; cases hx; exact .inl ⟨_, rfl⟩
 ·simp at h; subst h; refine ⟨hx, ?_⟩; cases hx; exact .inl ⟨_, rfl⟩
 ·simp at h; subst h; refine ⟨hx, ?_⟩; cases hx; exact .inr ⟨_, _, _, rfl⟩
 ·simp at h
theorem extractA_ok {x v : AV} {xv : Value} {i : Nat} (hx : VR φ x xv) (h : extractA x i = some v) : ∃ u, VR φ v u ∧ (Instr.extract xv i).run P w = .ok u w := by
 unfold extractA at h
 split at h
 ·cases hx with
  | tuple hs =>
   obtain ⟨u, h1, h2⟩ := hs.get i v h
   exact ⟨u, h2, by simp [Instr.extract, h1]⟩
 ·simp at h
section
variable (hD : TabOk P D)
include hD
theorem allocA_ok (hr : Rel φ s w) {t : TypeId} {v : AV} {s' : St} (h : allocA D s t = some (v, s')) :
  ∃ φ' u w', VR φ' v u ∧ (Instr.alloc t true (.tuple #[])).run P w = .ok u w' ∧ Stp φ s w φ' s' w' ∧ Rel φ' s' w' := by
 unfold allocA at h
 split at h
 ·rename_i i hi
  split at h
  ·rename_i z hz
   simp at h
   obtain ⟨rfl, rfl⟩ := h
   obtain ⟨zv, z1, z2⟩ := run_zero hD hi hz w
   have hzc := (constAV_ok (φ := φ) z2).cells
   obtain ⟨φ', w', g1, g2, g3, g4⟩ := new_cells (P := P) hr hzc t
   refine ⟨φ', _, w', .ptr g4 0, ?_, g2, g3⟩
   have g1' : (newRow t zv.cells).run P w = .ok ⟨w.heap.size, 0, none⟩ w' := by simpa using g1
   simp [Instr.alloc, z1, newVar, g1']
  ·simp at h
 ·simp at h
omit hD in
theorem boxA_ok (hr : Rel φ s w) {x : AV} {xv : Value} (hx : VR φ x xv) (t : TypeId) : ∃ φ' u w', VR φ' (boxA s x).1 u ∧ (Instr.box t xv).run P w = .ok u w' ∧ Stp φ s w φ' (boxA s x).2 w' ∧ Rel φ' (boxA s x).2 w' := by
 obtain ⟨φ', w', g1, g2, g3, g4⟩ := new_cells (P := P) hr hx.cells t
 refine ⟨φ', _, w', .ptr g4 0, ?_, g2, g3⟩
 have g1' : (newRow t xv.cells).run P w = .ok ⟨w.heap.size, 0, none⟩ w' := by simpa using g1
 simp [Instr.box, newVar, g1']
theorem buildA_ok {t : TypeId} {vs : List AV} {us : List Value} {ps : Array (Nat × Operand)} {v : AV} (hv : VRs φ vs us) (hul : us = ps.toList.map fun x => ρ x.2) (h : buildA D t (ps.toList.map (·.1)) vs = some v) (w : World) :
  ∃ u, VR φ v u ∧ (Instr.build t (ps.map fun (i, x) => (i, ρ x))).run P w = .ok u w := by
 unfold buildA at h
 split at h
 ·rename_i i hi
  split at h
  ·rename_i z hz
   split at h
   ·rename_i fs hd
    split at h
    ·rename_i pl hp
     split at h
     ·rename_i cs hf
      simp at h; subst h
      exact build_struct hD hi hz hd hp hv hul hf w
     ·simp at h
    ·simp at h
   ·rename_i n e hd
    split at h
    ·rename_i ei hei
     split at h
     ·rename_i cs hf
      simp at h; subst h
      exact build_array hD hi hz hd hei hv hul hf w
     ·simp at h
    ·simp at h
   ·simp at h
  ·simp at h
 ·simp at h
theorem ifaceA_ok {t : TypeId} {x v : AV} {xv : Value} (hx : VR φ x xv) (h : ifaceA D t x = some v) (w : World) : ∃ u, VR φ v u ∧ (Instr.makeInterface t xv).run P w = .ok u w := by
 unfold ifaceA at h
 split at h
 ·rename_i i hi
  obtain ⟨d, _, hd, hu⟩ := run_under hD hi w
  split at h
  ·simp at h
  ·rename_i hni
   simp at h; subst h
   refine ⟨_, .iface t hx, ?_⟩
   rw [hd] at hni
   cases d <;> first | (simp [Instr.makeInterface, hu]; done) | (simp [tdOf] at hni; done)
 ·simp at h
theorem fieldAddrB_ok {t : TypeId} {x v : AV} {xv : Value} {f : Nat} (hx : VR φ x xv) (h : fieldAddrB D t x f = some v) (w : World) : ∃ u, VR φ v u ∧ (Instr.fieldAt t xv f).run P w = .ok u w := by
 unfold fieldAddrB at h
 split at h
 ·rename_i b o i hi
  obtain ⟨d, _, hd, hu⟩ := run_under hD hi w
  split at h
  ·rename_i fs hid
   rw [hid] at hd
   obtain ⟨gs, rfl, rfl⟩ := tdOf_struct hd
   split at h
   ·rename_i y hy
    split at h
    ·rename_i fi hfi
     split at h
     ·simp at h
     ·rename_i m hm
      simp at h; subst h
      cases hx with
      | ptr hrb =>
       rename_i r sh
       simp only [List.getElem?_map, Option.map_eq_some_iff] at hy
       obtain ⟨g, hg, rfl⟩ := hy
       simp only at hfi
       have hg' : gs[f]? = some g := by simpa using hg
       have hsz := run_size hD hfi w
       refine ⟨.pointer (some ⟨r, sh + (o + g.offset), none⟩), .ptr hrb _, ?_⟩
       simp [Instr.fieldAt, hu, hg', Instr.sureAddr, fieldPlace, hsz, hm, add_addr, Nat.add_assoc]
    ·simp at h
   ·simp at h
  ·simp at h
 ·simp at h
theorem fieldAddrA_ok {t : TypeId} {x v : AV} {xv : Value} {f : Nat} (hx : VR φ x xv) (h : fieldAddrA D t x f = some v) (w : World) : ∃ u, VR φ v u ∧ (Instr.fieldAt t xv f).run P w = .ok u w := by
 unfold fieldAddrA at h
 split at h
 ·rename_i b q z o
  cases hx with
  | sptr hrb ht =>
   rename_i r sh n
   unfold fieldAddrS at h
   split at h
   ·rename_i i hi
    split at h
    ·rename_i fs hd
     split at h
     ·rename_i y hy
      split at h
      ·rename_i fi hfi
       split at h
       ·simp at h
       ·rename_i m hm
        simp at h; subst h
        have hb : fieldAddrB D t (.ptr b (n * z + o)) f = some (.ptr b (n * z + o + y.2.1)) := by
         unfold fieldAddrB
         simp only [hi, hd, hy, hfi, hm]
        obtain ⟨u, u1, u2⟩ := fieldAddrB_ok (P := P) hD (.ptr hrb _) hb w
        cases u1 with
        | ptr hrb' =>
         rw [hrb] at hrb'
         simp at hrb'
         obtain ⟨rfl, rfl⟩ := hrb'
         refine ⟨_, .sptr hrb ht z (o + y.2.1), ?_⟩
         rw [u2, Nat.add_assoc]
      ·simp at h
     ·simp at h
    ·simp at h
   ·simp at h
 ·exact fieldAddrB_ok hD hx h w
theorem fieldA_ok {t : TypeId} {x v : AV} {xv : Value} {f : Nat} (hx : VR φ x xv) (h : fieldA D t x f = some v) (w : World) : ∃ u, VR φ v u ∧ (Instr.field t xv f).run P w = .ok u w := by
 unfold fieldA at h
 split at h
 ·rename_i i hi
  obtain ⟨d, _, hd, hu⟩ := run_under hD hi w
  split at h
  ·rename_i fs hid
   rw [hid] at hd
   obtain ⟨gs, rfl, rfl⟩ := tdOf_struct hd
   split at h
   ·rename_i y hy
    split at h
    ·rename_i fi hfi
     simp only [List.getElem?_map, Option.map_eq_some_iff] at hy
     obtain ⟨g, hg, rfl⟩ := hy
     simp only at hfi h
     have hg' : gs[f]? = some g := by simpa using hg
     have hxa : ∃ us : List Value, xv = .agg us.toArray := by
      unfold fieldOf at h
      split at h
      ·cases hx; exact ⟨_, rfl⟩
      ·simp at h
     obtain ⟨us, rfl⟩ := hxa
     obtain ⟨u, u1, u2⟩ := field_ok hD hfi hx h w
     exact ⟨u, u1, by simp [Instr.field, hu, hg', asAgg, u2]⟩
    ·simp at h
   ·simp at h
  ·simp at h
 ·simp at h
theorem indexAddrA_ok {t : TypeId} {x i v : AV} {xv iv : Value} (hx : VR φ x xv) (hi : VR φ i iv) (h : indexAddrA D t x i = some v) (w : World) : ∃ u, VR φ v u ∧ (Instr.indexAt t xv iv).run P w = .ok u w := by
 unfold indexAddrA at h
 split at h
 ·rename_i ti n hti hn
  obtain ⟨d, _, hd, hu⟩ := run_under hD hti w
  obtain ⟨k, z, rfl, z0, rfl⟩ := natOf_ok hi hn
  split at h
  ·rename_i len e hid
   rw [hid] at hd
   obtain rfl : d = .array len e := by cases d <;> simp [tdOf] at hd; obtain ⟨rfl, rfl⟩ := hd; rfl
   split at h
   ·rename_i ei b o hei
    split at h
    ·rename_i hl
     have hl := blt_true hl
     simp at h; subst h
     cases hx with
     | ptr hrb =>
      rename_i r sh
      have hsz := run_size hD hei w
      refine ⟨.pointer (some ⟨r, sh + (o + z.toNat * ei.size), none⟩), .ptr hrb _, ?_⟩
      have hz : z < len := by omega
      simp [Instr.indexAt, asIntOf, hu, Instr.sureAddr, z0, hz, hsz, add_addr, Nat.add_assoc]
    ·simp at h
   ·simp at h
  ·rename_i e hid
   rw [hid] at hd
   obtain rfl : d = .slice e := by cases d <;> simp [tdOf] at hd; rw [hd]
   split at h
   ·rename_i ei b o len cp hei
    split at h
    ·rename_i hl
     have hl := blt_true hl
     simp at h; subst h
     cases hx with
     | slice hrb hc _ _ hle =>
      rename_i r sh c
      have hsz := run_size hD hei w
      refine ⟨.pointer (some ⟨r, sh + (o + z.toNat * ei.size), none⟩), .ptr hrb _, ?_⟩
      have hz : z < len := by omega
      simp [Instr.indexAt, asIntOf, hu, z0, hz, hsz, add_addr, Nat.add_assoc]
    ·simp at h
   ·simp at h
  ·simp at h
 ·simp at h
theorem indexA_ok {t : TypeId} {x i v : AV} {xv iv : Value} (hx : VR φ x xv) (hi : VR φ i iv) (h : indexA D t x i = some v) (w : World) : ∃ u, VR φ v u ∧ (Instr.index t xv iv).run P w = .ok u w := by
 unfold indexA at h
 split at h
 ·rename_i ti n hti hn
  obtain ⟨d, _, hd, hu⟩ := run_under hD hti w
  obtain ⟨k, z, rfl, z0, rfl⟩ := natOf_ok hi hn
  split at h
  ·rename_i len e hid
   rw [hid] at hd
   obtain rfl : d = .array len e := by cases d <;> simp [tdOf] at hd; obtain ⟨rfl, rfl⟩ := hd; rfl
   split at h
   ·rename_i ei hei
    split at h
    ·rename_i hl
     have hl := blt_true hl
     have hxa : ∃ us : List Value, xv = .agg us.toArray := by
      unfold fieldOf at h
      split at h
      ·cases hx; exact ⟨_, rfl⟩
      ·simp at h
     obtain ⟨us, rfl⟩ := hxa
     obtain ⟨u, u1, u2⟩ := field_ok hD hei hx h w
     have hsz := run_size hD hei w
     have hz : z < len := by omega
     exact ⟨u, u1, by simp [Instr.index, asIntOf, hu, z0, hz, hsz, u2]⟩
    ·simp at h
   ·simp at h
  ·rename_i hid
   rw [hid] at hd
   obtain rfl : d = .string := by cases d <;> simp [tdOf] at hd; rfl
   split at h
   ·rename_i b
    split at h
    ·rename_i c hc
     simp at h; subst h
     cases hx
     have hb : b[z.toNat]? = some c := by
      have : z.toNat < b.data.toList.length := (List.getElem?_eq_some_iff.1 hc).1
      have hlt : z.toNat < b.size := this
      rw [getElem?_pos b z.toNat hlt]
      rw [List.getElem?_eq_getElem this] at hc
      have hc' : b.data[z.toNat] = c := by simpa using hc
      exact congrArg some hc'
     exact ⟨_, .int _ _, by simp [Instr.index, asIntOf, hu, z0, hb]⟩
    ·simp at h
   ·simp at h
  ·simp at h
 ·simp at h
theorem rangeA_ok (hr : Rel φ s w) {t : TypeId} {x v : AV} {xv : Value} {s' : St} (hx : VR φ x xv) (h : rangeA D s t x = some (v, s')) :
  ∃ φ' u w', VR φ' v u ∧ (Instr.range t xv).run P w = .ok u w' ∧ Stp φ s w φ' s' w' ∧ Rel φ' s' w' := by
 unfold rangeA at h
 split at h
 ·rename_i i hi
  obtain ⟨d, _, hd, hu⟩ := run_under hD hi w
  split at h
  ·rename_i k e hid
   rw [hid] at hd
   obtain rfl : d = .map k e := by cases d <;> simp [tdOf] at hd; obtain ⟨rfl, rfl⟩ := hd; rfl
   split at h
   ·simp at h
    obtain ⟨rfl, rfl⟩ := h
    cases hx
    obtain ⟨φ', w', g1, g2, g3, g4⟩ := new_other (P := P) hr (.iter0 0 [] 0)
    refine ⟨φ', _, w', .ptr g4 0, ?_, g2, g3⟩
    have g1' : (newObj (.mapIter none 0 #[] 0)).run P w = .ok w.heap.size w' := g1
    simp only [Instr.range, Sem.run_bind, hu, Result.andThen_ok, Sem.run_pure, g1']
   ·rename_i b
    split at h
    ·rename_i es clock hb
     simp at h
     obtain ⟨rfl, rfl⟩ := h
     cases hx with
     | map hrb =>
      obtain ⟨fs, f1, f2⟩ := hr.map hb hrb
      obtain ⟨φ', w', g1, g2, g3, g4⟩ := new_other (P := P) hr (.iter1 hrb clock [] clock)
      refine ⟨φ', _, w', .ptr g4 0, ?_, g2, g3⟩
      have g1' : (newObj (.mapIter (some _) clock #[] clock)).run P w = .ok w.heap.size w' := g1
      simp only [Instr.range, Sem.run_bind, hu, Result.andThen_ok, run_getObj_of f1, Sem.run_pure]
      rw [g1']
      rfl
    ·simp at h
   ·simp at h
  ·simp at h
 ·simp at h
end
theorem VR.as_tm {k : IntKind} {t : Tm} {n : Int} {u : Value} (h : VR φ (.int k n) u) (ht : t.ev φ.env = n) : VR φ (.tm k t) u := by
 cases h
 exact .tm k t ht
theorem PT.getAll_of {α : Type} : ∀ (n : Nat) (t : PT α) (k : Nat) (l : List α), l.length = n → (∀ i, i < n → t.get (k + i) = l[i]?) → t.getAll k n = some l
 | 0, t, k, l, hl, _ => by
  have : l = [] := List.eq_nil_of_length_eq_zero hl
  subst this
  rfl
 | n + 1, t, k, l, hl, h => by
  cases l with
  | nil => simp at hl
  | cons x r =>
   have h0 := h 0 (by omega)
   simp at h0
   have hr := PT.getAll_of n t (k + 1) r (by simpa using hl) (fun i hi => by
    have := h (i + 1) (by omega)
    rw [show k + (i + 1) = k + 1 + i by omega] at this
    simpa using this)
   simp [PT.getAll, h0, hr]
def rowCells (e : Env) (ks : List IntKind) (A : ATm) (N : Nat) : List AV := (List.range (N * ks.length)).map fun j => .int (ks[j % ks.length]?.getD .i64) (A.ev e j)
theorem rowCells_length (e : Env) (ks : List IntKind) (A : ATm) (N : Nat) : (rowCells e ks A N).length = N * ks.length := by simp [rowCells]
theorem rowCells_get (e : Env) (ks : List IntKind) (A : ATm) (N j : Nat) : (PT.setAll .nil 0 (rowCells e ks A N)).get j = if j < N * ks.length then some (.int (ks[j % ks.length]?.getD .i64) (A.ev e j)) else none := by
 rw [PT.get_setAll, rowCells_length]
 simp only [Nat.zero_le, Nat.zero_add, true_and, Nat.sub_zero]
 split
 ·rename_i h
  simp [rowCells, h]
 ·simp
theorem ks_get {ks : List IntKind} (h : 0 < ks.length) (j : Nat) : ks[j % ks.length]? = some (ks[j % ks.length]?.getD .i64) := by
 have := Nat.mod_lt j h
 simp [this]
theorem OR.as_cells {sh : Nat} {ks : List IntKind} {A : ATm} {n : Tm} {tl : Option (Nat × Nat)} {ro : Obj} (h : OR φ sh (.arr ks A n tl) ro) :
  ∃ N : Nat, n.ev φ.env = (N : Int) ∧ 0 < ks.length ∧ OR φ sh (.cells (PT.setAll .nil 0 (rowCells φ.env ks A N)) (N * ks.length) tl) ro := by
 have key : ∀ (N : Nat) (arr : Array Value), RowR φ sh ks A N arr → CellsR φ sh (PT.setAll .nil 0 (rowCells φ.env ks A N)) (N * ks.length) arr := by
  intro N arr hr
  obtain ⟨h0, h1, h2⟩ := hr
  refine CellsR.of_total h1 fun i hi => ?_
  obtain ⟨k, h3, h4⟩ := h2 i hi
  refine ⟨_, _, by rw [rowCells_get, if_pos hi], h4, ?_⟩
  rw [h3]
  exact .int _ _
 cases h with
 | arr hn hr => exact ⟨_, hn, hr.1, .cells (key _ _ hr)⟩
 | arrT hn hr hk hs hf => exact ⟨_, hn, hr.1, .tail (key _ _ hr) hk hs hf⟩
theorem OR.as_row {sh : Nat} {ks : List IntKind} {A : ATm} {n : Tm} {N : Nat} {c : PT AV} {tl : Option (Nat × Nat)} {ro : Obj} (h : OR φ sh (.cells c (N * ks.length) tl) ro) (h0 : 0 < ks.length) (hn : n.ev φ.env = (N : Int))
  (htl : ∀ k z, tl = some (k, z) → z = ks.length) (hc : ∀ j, j < N * ks.length → ∃ a, c.get j = some a ∧ ∀ v, VR φ a v → v = .int (ks[j % ks.length]?.getD .i64) (A.ev φ.env j)) : OR φ sh (.arr ks A n tl) ro := by
 have key : ∀ arr, CellsR φ sh c (N * ks.length) arr → RowR φ sh ks A N arr := by
  intro arr hr
  refine ⟨h0, hr.1, fun j hj => ?_⟩
  obtain ⟨a, h4, h5⟩ := hc j hj
  obtain ⟨v, h2, h3⟩ := hr.2 j a hj h4
  exact ⟨_, ks_get h0 j, by rw [h2, h5 v h3]⟩
 cases h with
 | cells hr => exact .arr hn (key _ hr)
 | tail hr hk hs hf =>
  obtain rfl := htl _ _ rfl
  exact .arrT hn (key _ hr) hk hs hf
 | rom hr => have := htl _ _ rfl; omega
theorem Rel.swap (h : Rel φ s w) {b r sh : Nat} {o o' : AObj} {ro : Obj} (hb : s.h.get b = some o) (hr : φ.blk b = some (r, sh)) (hw : w.heap[r]? = some ro) (ho : OR φ sh o' ro) (hob : ownB s.h b = true := by simp [ownB, *]) :
  Rel φ { s with h := s.h.set b o' } w ∧ Stp φ s w φ { s with h := s.h.set b o' } w := by
 have := h.put_old (b := b) (o := o') (ro := ro) hob hr ho (fun arr e fz hx => by rw [hw] at hx; simp at hx; subst hx; exact ⟨_, _, rfl, rfl⟩)
 have e : w.heap.setIfInBounds r ro = w.heap := by
  apply Array.ext
  ·simp
  ·intro k h1 h2
   by_cases e : r = k
   ·subst e
    simp
    have := (Array.getElem?_eq_some_iff.1 hw).2
    exact this.symm
   ·rw [Array.getElem_setIfInBounds_ne (by simpa using h2) e]
 rw [e] at this
 exact this
theorem Rel.row (h : Rel φ s w) {b r sh : Nat} {ks : List IntKind} {A : ATm} {n : Tm} {tl : Option (Nat × Nat)} (hb : s.h.get b = some (.arr ks A n tl)) (hr : φ.blk b = some (r, sh)) :
  ∃ ro, w.heap[r]? = some ro ∧ OR φ sh (.arr ks A n tl) ro := by
 rcases h.obj b _ hb with hv | ⟨r', sh', ro, h1, h2, h3⟩
 ·rw [hv.2.1] at hr; simp at hr
 ·rw [hr] at h1
  simp at h1
  obtain ⟨rfl, rfl⟩ := h1
  exact ⟨ro, h2, h3⟩
theorem inR_ok (h : Rel φ s w) {u n : Tm} (hi : inR s.fs u n = true) : 0 ≤ u.ev φ.env ∧ u.ev φ.env < n.ev φ.env := by
 unfold inR at hi
 split at hi
 ·rename_i h1 h2
  have a := decLt_ok h.facts h1
  have b := decLt_ok h.facts h2
  have a' := of_decide_eq_false a
  have b' := of_decide_eq_true b
  simp only [Tm.ev] at a'
  omega
 ·simp at hi
theorem rowAt_ok {a : AV} {av : Value} {p : RowP} (hx : VR φ a av) (h : rowAt s.h a = some p) :
  s.h.get p.b = some (.arr p.ks p.A p.n p.tl) ∧ ∃ r sh m, φ.blk p.b = some (r, sh) ∧ p.u.ev φ.env = (m : Nat) ∧ av = .pointer (some ⟨r, sh + (m * p.ks.length + p.o), none⟩) := by
 unfold rowAt at h
 split at h
 ·rename_i b u z o
  split at h
  ·rename_i ks A n tl hb
   split at h
   ·rename_i hz
    simp at h; subst h
    cases hx with
    | sptr hr ht =>
     have := beq_true hz
     subst this
     exact ⟨hb, _, _, _, hr, ht, rfl⟩
   ·simp at h
  ·simp at h
 ·rename_i b o
  split at h
  ·rename_i ks A n tl hb
   simp at h; subst h
   cases hx with
   | ptr hr =>
    refine ⟨hb, _, _, o / ks.length, hr, by simp [Tm.ev]; rfl, ?_⟩
    have : o / ks.length * ks.length + o % ks.length = o := by rw [Nat.mul_comm]; exact Nat.div_add_mod o ks.length
    simp only [show Nat.mod o ks.length = o % ks.length from rfl, this]
  ·simp at h
 ·simp at h
theorem selsFrom_ok {p : RowP} {m N : Nat} {e : Env} (hu : p.u.ev e = (m : Nat)) (hm : m < N) : ∀ (k o : Nat) (l : List AV), selsFrom p o k = some l →
  o + k ≤ p.ks.length + (if k = 0 then o else 0) ∧ ∃ l', (PT.setAll .nil 0 (rowCells e p.ks p.A N)).getAll (m * p.ks.length + o) k = some l' ∧ l'.length = k ∧ l.length = k ∧
   ∀ i : Nat, i < k → ∃ kd n, l[i]? = some (.tm kd (.sel p.A p.u p.ks.length (o + i))) ∧ l'[i]? = some (.int kd n) ∧ (Tm.sel p.A p.u p.ks.length (o + i)).ev e = n
 | 0, o, l, h => by
  simp [selsFrom] at h; subst h
  exact ⟨by simp, [], rfl, rfl, rfl, fun i hi => by omega⟩
 | k + 1, o, l, h => by
  simp only [selsFrom] at h
  split at h
  ·rename_i kd r hk hr
   simp at h; subst h
   obtain ⟨h1, l', h2, h3, h4, h5⟩ := selsFrom_ok hu hm k (o + 1) r hr
   have ho : o < p.ks.length := (List.getElem?_eq_some_iff.1 hk).1
   have hle : o + 1 + k ≤ p.ks.length := by
    by_cases e0 : k = 0
    ·subst e0; omega
    ·rw [if_neg e0] at h1; omega
   have hin : m * p.ks.length + o < N * p.ks.length := by
    have : (m + 1) * p.ks.length ≤ N * p.ks.length := Nat.mul_le_mul_right _ hm
    rw [Nat.add_mul, Nat.one_mul] at this
    omega
   have hmod : (m * p.ks.length + o) % p.ks.length = o := by rw [Nat.mul_comm, Nat.mul_add_mod]; exact Nat.mod_eq_of_lt ho
   have hget : (PT.setAll .nil 0 (rowCells e p.ks p.A N)).get (m * p.ks.length + o) = some (.int kd (p.A.ev e (m * p.ks.length + o))) := by
    rw [rowCells_get, if_pos hin, hmod, hk]; rfl
   refine ⟨by simp; omega, .int kd (p.A.ev e (m * p.ks.length + o)) :: l', ?_, by simp [h3], by simp [h4], ?_⟩
   ·simp only [PT.getAll, hget]
    rw [show m * p.ks.length + o + 1 = m * p.ks.length + (o + 1) by omega, h2]
   ·intro i hi
    cases i with
    | zero => exact ⟨kd, _, by simp, by simp; rfl, by simp [Tm.ev, hu]⟩
    | succ i =>
     obtain ⟨kd', n', q1, q2, q3⟩ := h5 i (by omega)
     rw [show o + 1 + i = o + (i + 1) by omega] at q1 q3
     exact ⟨kd', n', by simpa using q1, by simpa using q2, q3⟩
  ·simp at h
theorem VRs.as_tms : ∀ {l l' : List AV} {us : List Value}, l.length = l'.length → (∀ i : Nat, i < l.length → ∃ kd t n, l[i]? = some (.tm kd t) ∧ l'[i]? = some (.int kd n) ∧ t.ev φ.env = n) → VRs φ l' us → VRs φ l us
 | [], [], us, _, _, h => h
 | [], _ :: _, us, hl, _, _ => by simp at hl
 | _ :: _, [], us, hl, _, _ => by simp at hl
 | x :: l, y :: l', us, hl, hi, h => by
  obtain ⟨kd, t, n, h1, h2, h3⟩ := hi 0 (by simp)
  simp at h1 h2
  subst h1; subst h2
  cases h with
  | cons hv hs => exact .cons (hv.as_tm h3) (VRs.as_tms (by simpa using hl) (fun i hi' => by
    obtain ⟨kd, t, n, q1, q2, q3⟩ := hi (i + 1) (by simpa using hi')
    exact ⟨kd, t, n, by simpa using q1, by simpa using q2, q3⟩) hs)
theorem updsFrom_ok {ks : List IntKind} {u : Tm} {e : Env} {m : Nat} (hu : u.ev e = (m : Nat)) : ∀ (vs : List AV) (o : Nat) (A A' : ATm), updsFrom ks u o vs A = some A' →
  (vs ≠ [] → o + vs.length ≤ ks.length) ∧ (∀ i : Nat, i < vs.length → ∃ k t, vs[i]? = some t ∧ ks[o + i]? = some k ∧ ∃ y, tmOf t = some (k, y) ∧ A'.ev e (m * ks.length + (o + i)) = y.ev e) ∧
   ∀ j, (j < m * ks.length + o ∨ m * ks.length + o + vs.length ≤ j) → A'.ev e j = A.ev e j
 | [], o, A, A', h => by
  simp [updsFrom] at h; subst h
  exact ⟨fun h => absurd rfl h, fun i hi => by simp at hi, fun _ _ => rfl⟩
 | x :: r, o, A, A', h => by
  simp only [updsFrom] at h
  split at h
  ·rename_i k k' y hk hy
   split at h
   ·rename_i hkk
    subst hkk
    obtain ⟨h1, h2, h3⟩ := updsFrom_ok hu r (o + 1) _ A' h
    have ho : o < ks.length := (List.getElem?_eq_some_iff.1 hk).1
    refine ⟨fun _ => ?_, fun i hi => ?_, fun j hj => ?_⟩
    ·cases r with
     | nil => simp; omega
     | cons => have := h1 (by simp); simp at this ⊢; omega
    ·cases i with
     | zero =>
      refine ⟨k, x, by simp, by simpa using hk, y, hy, ?_⟩
      rw [h3 _ (.inl (by omega))]
      simp [ATm.ev, hu]
     | succ i =>
      obtain ⟨k2, t2, q1, q2, y2, q3, q4⟩ := h2 i (by simpa using hi)
      rw [show o + 1 + i = o + (i + 1) by omega] at q2 q4
      exact ⟨k2, t2, by simpa using q1, q2, y2, q3, q4⟩
    ·rw [h3 j (by simp at hj ⊢; omega)]
     simp only [ATm.ev, hu, Int.toNat_natCast]
     rw [if_neg (by simp at hj; omega)]
   ·simp at h
  ·simp at h
theorem updsFrom_ones {ks : List IntKind} {u : Tm} : ∀ (vs : List AV) (o : Nat) (A A' : ATm), updsFrom ks u o vs A = some A' → ones vs = true
 | [], _, _, _, _ => rfl
 | x :: r, o, A, A', h => by
  simp only [updsFrom] at h
  split at h
  ·rename_i k k' y hk hy
   split at h
   ·have hr := updsFrom_ones r (o + 1) _ A' h
    cases x <;> simp [tmOf] at hy <;> simpa [ones] using hr
   ·simp at h
  ·simp at h
theorem tmOf_one {x : AV} {k : IntKind} {y : Tm} (h : tmOf x = some (k, y)) {v : Value} (hv : VR φ x v) : v = .int k (y.ev φ.env) := by
 unfold tmOf at h
 split at h
 ·simp at h; obtain ⟨rfl, rfl⟩ := h; cases hv; rfl
 ·simp at h; obtain ⟨rfl, rfl⟩ := h
  cases hv with
  | tm _ _ ht => rw [ht]
 ·simp at h
theorem tmOf_ones : ∀ {l : List AV}, (∀ (i : Nat) (x : AV), l[i]? = some x → ∃ k y, tmOf x = some (k, y)) → ones l = true
 | [], _ => rfl
 | x :: r, h => by
  obtain ⟨k, y, hy⟩ := h 0 x rfl
  have hr := tmOf_ones (l := r) (fun i x hx => h (i + 1) x (by simpa using hx))
  cases x <;> simp [tmOf] at hy <;> simpa [ones] using hr
theorem row_written {ks : List IntKind} {A A' : ATm} {u : Tm} {m N o : Nat} {vs : List AV} (hu : u.ev φ.env = (m : Nat)) (hm : m < N) (h : updsFrom ks u o vs A = some A') :
  ones vs = true ∧ (vs ≠ [] → m * ks.length + o + vs.length ≤ N * ks.length) ∧
   ∀ j, j < N * ks.length → ∃ a, ((PT.setAll .nil 0 (rowCells φ.env ks A N)).setAll (m * ks.length + o) vs).get j = some a ∧ ∀ v, VR φ a v → v = .int (ks[j % ks.length]?.getD .i64) (A'.ev φ.env j) := by
 obtain ⟨h1, h2, h3⟩ := updsFrom_ok hu vs o A A' h
 have hle : vs ≠ [] → m * ks.length + o + vs.length ≤ N * ks.length := fun hne => by
  have := h1 hne
  have : (m + 1) * ks.length ≤ N * ks.length := Nat.mul_le_mul_right _ hm
  rw [Nat.add_mul, Nat.one_mul] at this
  omega
 refine ⟨tmOf_ones (fun i x hx => ?_), hle, fun j hj => ?_⟩
 ·have hi : i < vs.length := (List.getElem?_eq_some_iff.1 hx).1
  obtain ⟨k, t, q1, _, y, q3, _⟩ := h2 i hi
  rw [hx] at q1; simp at q1; subst q1
  exact ⟨k, y, q3⟩
 ·rw [PT.get_setAll]
  by_cases hc : m * ks.length + o ≤ j ∧ j < m * ks.length + o + vs.length
  ·rw [if_pos hc]
   obtain ⟨i, rfl⟩ : ∃ i, j = m * ks.length + (o + i) := ⟨j - (m * ks.length + o), by omega⟩
   have hi : i < vs.length := by omega
   obtain ⟨k, t, q1, q2, y, q3, q4⟩ := h2 i hi
   refine ⟨t, by rw [show m * ks.length + (o + i) - (m * ks.length + o) = i by omega]; exact q1, fun v hv => ?_⟩
   have hlt : o + i < ks.length := (List.getElem?_eq_some_iff.1 q2).1
   have hmod : (m * ks.length + (o + i)) % ks.length = o + i := by rw [Nat.mul_comm, Nat.mul_add_mod]; exact Nat.mod_eq_of_lt hlt
   rw [tmOf_one q3 hv, hmod, q2, q4]
   rfl
  ·rw [if_neg hc, rowCells_get, if_pos hj]
   refine ⟨_, rfl, fun v hv => ?_⟩
   cases hv
   rw [h3 j (by omega)]
theorem sliceCells_set {h : PT AObj} {b size : Nat} {y : AV} {o o' : AObj} {new : List AV} (hb : h.get b = some o) (ho : ∀ c n tl, o ≠ .cells c n tl) (hy : sliceCells h size y = some new) : sliceCells (h.set b o') size y = some new := by
 unfold sliceCells at hy ⊢
 split at hy
 ·exact hy
 ·exact hy
 ·rename_i b' of ln cp
  split at hy
  ·rename_i c n tl hb'
   have : b' ≠ b := by rintro rfl; rw [hb] at hb'; simp at hb'; exact ho _ _ _ hb'
   simp only [PT.get_set, this, if_false, hb']
   exact hy
  ·simp at hy
 ·exact hy
 ·simp at hy
theorem add_one {a : Int} (h0 : 0 ≤ a) (h1 : a ≤ 1000000) : arith .add .i64 a 1 = a + 1 := by
 show IntKind.i64.wrap (a + 1) = a + 1
 simp [IntKind.wrap, IntKind.bits, IntKind.signed]
 omega
theorem grown_row {b : Nat} {ks : List IntKind} {A A' : ATm} {len : Tm} {N size : Nat} {new : List AV} (hlen : len.ev φ.env = (N : Int)) (hN : N ≤ 1000000) (hsz : ks.length = size) (h0 : 0 < size) (hnl : new.length = size)
  (hA : updsFrom ks len 0 new A = some A') {s0 : St} {h0' : PT AObj} {φ' : Phi} {u : Value} {w' : World} (e1 : s0.nx = s.nx) (e2 : s0.nc = s.nc) (e3 : s0.fs = s.fs) (hh : ∀ c o, (s.h.del b).get c = some o → h0'.get c = some o) (henv : φ'.env = φ.env)
  (hv : VR φ' (growA s0 h0' size (N + 1) (rowCells φ.env ks A N ++ new)).1 u) (hr' : Rel φ' (growA s0 h0' size (N + 1) (rowCells φ.env ks A N ++ new)).2 w') (hs' : Stp φ s w φ' (growA s0 h0' size (N + 1) (rowCells φ.env ks A N ++ new)).2 w') :
  VR φ' (.ssl s.nx (.op .add .i64 len (.c 1)) (.var s.nc 0)) u ∧
  Stp φ s w φ' { s with h := (s.h.del b).set s.nx (.arr ks A' (.op .add .i64 len (.c 1)) (some (s.nc, size))), nx := s.nx + 1, nc := s.nc + 1 } w' ∧
  Rel φ' { s with h := (s.h.del b).set s.nx (.arr ks A' (.op .add .i64 len (.c 1)) (some (s.nc, size))), nx := s.nx + 1, nc := s.nc + 1 } w' := by
 obtain ⟨hh0, nx0, nc0, fs0⟩ := s0
 simp only at e1 e2 e3
 subst e1; subst e2; subst e3
 have hone : (Tm.op BinOp.add .i64 len (.c 1)).ev φ'.env = ((N + 1 : Nat) : Int) := by
  simp only [Tm.ev, henv, hlen]
  rw [add_one (by omega) (by omega)]
  omega
 obtain ⟨g1, g2, g3⟩ := updsFrom_ok (m := N) hlen new 0 A A' hA
 simp only [growA] at hv hr' hs'
 have hget : (h0'.set s.nx (.cells (PT.setAll .nil 0 (rowCells φ.env ks A N ++ new)) ((N + 1) * size) (some (s.nc, size)))).get s.nx = some (.cells (PT.setAll .nil 0 (rowCells φ.env ks A N ++ new)) ((N + 1) * size) (some (s.nc, size))) := by simp
 subst hsz
 cases hv with
 | slice hrb hc _ _ hle =>
  rename_i r sh c
  rcases hr'.obj s.nx _ hget with hvoid | ⟨r', sh', ro, k1, k2, k3⟩
  ·exact hvoid.elim
  ·rw [hrb] at k1
   simp at k1
   obtain ⟨rfl, rfl⟩ := k1
   have hrow : OR φ' sh (.arr ks A' (.op .add .i64 len (.c 1)) (some (s.nc, ks.length))) ro := k3.as_row h0 hone (fun k z h => by simp at h; exact h.2.symm) (fun j hj => by
    rw [PT.get_setAll]
    have hl : (rowCells φ.env ks A N ++ new).length = (N + 1) * ks.length := by rw [List.length_append, rowCells_length, hnl, Nat.add_mul, Nat.one_mul]
    rw [if_pos (by omega)]
    simp only [Nat.sub_zero]
    by_cases hlt : j < N * ks.length
    ·rw [List.getElem?_append_left (by rw [rowCells_length]; exact hlt)]
     refine ⟨.int (ks[j % ks.length]?.getD .i64) (A.ev φ.env j), by simp [rowCells, hlt], fun v hv => ?_⟩
     cases hv
     rw [henv, g3 j (.inl (by omega))]
    ·rw [List.getElem?_append_right (by rw [rowCells_length]; omega), rowCells_length]
     obtain ⟨i, rfl⟩ : ∃ i, j = N * ks.length + (0 + i) := ⟨j - N * ks.length, by omega⟩
     have hi : i < new.length := by rw [hnl]; rw [Nat.add_mul, Nat.one_mul] at hj; omega
     obtain ⟨k, t, q1, q2, y, q3, q4⟩ := g2 i hi
     have hlt' : 0 + i < ks.length := by omega
     have hmod : (N * ks.length + (0 + i)) % ks.length = 0 + i := by rw [Nat.mul_comm, Nat.mul_add_mod]; exact Nat.mod_eq_of_lt hlt'
     refine ⟨t, by rw [show N * ks.length + (0 + i) - N * ks.length = i by omega]; exact q1, fun v hv => ?_⟩
     rw [tmOf_one q3 hv, hmod, q2, henv, q4]
     rfl)
   obtain ⟨z1, z2⟩ := hr'.swap hget hrb k2 hrow (by
    obtain ⟨z, hz⟩ : ∃ z, ks.length = z + 1 := ⟨ks.length - 1, by omega⟩
    simp [ownB, hz])
   obtain ⟨y1, y2⟩ := z1.less (h' := (s.h.del b).set s.nx (.arr ks A' (.op .add .i64 len (.c 1)) (some (s.nc, ks.length)))) (fun c o hc => by
    simp only [PT.get_set] at hc ⊢
    by_cases e : c = s.nx
    ·simpa [e] using hc
    ·rw [if_neg e] at hc
     simpa [e] using hh c o hc)
   exact ⟨.ssl hrb hone hc hle, (hs'.trans z2).trans y2, y1⟩
end Go.Eng

