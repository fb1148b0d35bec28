/-
  The abstract interpreter, its soundness: operations that compute.
-/
import Derived.Test.YtnhlppginnojfaaDoorEng5to6
import Derived.LaidEql
import Derived.WalkSpells
set_option linter.unusedVariables false
set_option linter.unusedSimpArgs false
namespace Go.Eng
variable {P : Program} {D : Tab} {φ : Phi} {s : St} {w : World} {T : PT AV} {ρ : Operand → Value}
def Res (φ : Phi) (s : St) (w : World) (r : Result Next) (v : AV) (s' : St) : Prop :=
 ∃ φ' w' rv, (r = .ok (.value rv) w' ∨ (r = .ok .skip w' ∧ rv = undef)) ∧ Stp φ s w φ' s' w' ∧ Rel φ' s' w' ∧ VR φ' v rv
theorem Res.still (h : Rel φ s w) {r : Result Next} {v : AV} {rv : Value} (hv : VR φ v rv) (hr : r = .ok (.value rv) w) : Res φ s w r v s :=
 ⟨φ, w, rv, .inl hr, Stp.refl φ s w, h, hv⟩
theorem VR.undef : VR φ AV.undef undef := by
 have := VR.tuple (φ := φ) VRs.nil
 simpa [AV.undef, Go.undef] using this
theorem bin_ok {op : BinOp} {k : IntKind} {a b : Int} {v : AV} (t : TypeId) (h : bin op k a b = some v) (ho : ∀ x, op ≠ x ∨ (x ≠ .shl ∧ x ≠ .shr)) :
  ∃ u, VR φ v u ∧ (binOp op t (.int k a) (.int k b)).run P w = .ok u w := by
 have hs : op ≠ .shl ∧ op ≠ .shr := by
  rcases ho op with h | h
  ·exact absurd rfl h
  ·exact h
 cases op <;> simp only [bin, Option.some.injEq, reduceCtorEq] at h
 case quo =>
  split at h
  ·simp at h
  ·rename_i hb; simp only [Option.some.injEq] at h; subst h; exact ⟨_, .int _ _, by simp [binOp, Op.intDiv, hb]⟩
 case rem =>
  split at h
  ·simp at h
  ·rename_i hb; simp only [Option.some.injEq] at h; subst h; exact ⟨_, .int _ _, by simp [binOp, Op.intDiv, hb]⟩
 case and => subst h; refine ⟨_, .int _ _, ?_⟩; simp only [binOp, Op.intBits]; rw [if_neg (by simp)]; rfl
 case or => subst h; refine ⟨_, .int _ _, ?_⟩; simp only [binOp, Op.intBits]; rw [if_neg (by simp)]; rfl
 case xor => subst h; refine ⟨_, .int _ _, ?_⟩; simp only [binOp, Op.intBits]; rw [if_neg (by simp)]; rfl
 case andNot => subst h; refine ⟨_, .int _ _, ?_⟩; simp only [binOp, Op.intBits]; rw [if_neg (by simp)]; rfl
 all_goals
  subst h
  first
   | exact ⟨_, .int _ _, by simp [binOp, Op.intArith]⟩
   | exact ⟨_, .bool _, by simp [binOp, Op.intCmp]⟩
theorem shf_ok {op : BinOp} {k k' : IntKind} {a b : Int} {v : AV} (t : TypeId) (h : shf op k a b = some v) :
  ∃ u, VR φ v u ∧ (binOp op t (.int k a) (.int k' b)).run P w = .ok u w := by
 unfold shf at h
 split at h
 ·simp at h
 ·rename_i hb
  cases op <;> simp at h
  all_goals
   subst h
   refine ⟨_, .int _ _, ?_⟩
   by_cases hk : k = k'
   ·subst hk; simp [binOp, Op.shift, hb]
   ·simp [binOp, Op.shift, hb]
theorem bytesEq_iff : ∀ {a b : List UInt8}, bytesEq a b = true ↔ a = b
 | [], [] => by simp [bytesEq]
 | [], _ :: _ => by simp [bytesEq]
 | _ :: _, [] => by simp [bytesEq]
 | a :: x, b :: y => by
  simp only [bytesEq, Bool.and_eq_true, List.cons.injEq, bytesEq_iff]
  constructor
  ·rintro ⟨h1, h2⟩; exact ⟨UInt8.toNat_inj.1 (beq_true h1), h2⟩
  ·rintro ⟨rfl, h2⟩; exact ⟨by simp, h2⟩
theorem bytesEq_eq (a b : List UInt8) : bytesEq a b = (a == b) := by
 rw [Bool.eq_iff_iff, bytesEq_iff]; simp
theorem bytesLt_eq : ∀ (a b : List UInt8), bytesLt a b = Op.bytesLess a b
 | _, [] => by simp [bytesLt, Op.bytesLess]
 | [], _ :: _ => by simp [bytesLt, Op.bytesLess]
 | a :: x, b :: y => by
  simp only [bytesLt, Op.bytesLess, bytesLt_eq x y]
  congr 1
  ·rw [Bool.eq_iff_iff]
   constructor
   ·intro h; have := blt_true h; simpa [UInt8.lt_iff_toNat_lt] using this
   ·intro h; have : a.toNat < b.toNat := by simpa [UInt8.lt_iff_toNat_lt] using h
    have : a.toNat + 1 ≤ b.toNat := this
    simpa [Nat.blt, Nat.ble_eq] using this
  ·congr 1
   rw [Bool.eq_iff_iff]
   constructor
   ·intro h; have := UInt8.toNat_inj.1 (beq_true h); simp [this]
   ·intro h; have : a = b := by simpa using h
    simp [this]
theorem toList_data (s : ByteArray) : s.toList = s.data.toList := by
 exact ByteArray.toList_eq s
theorem sbin_ok {op : BinOp} {x y : ByteArray} {v : AV} (t : TypeId) (h : sbin op x y = some v) :
  ∃ u, VR φ v u ∧ (binOp op t (.string x) (.string y)).run P w = .ok u w := by
 cases op <;> simp [sbin] at h
 case add =>
  obtain ⟨hb, rfl⟩ := h
  refine ⟨_, .str _, ?_⟩
  have : ¬ ((x.size + y.size : Nat) : Int) > IntKind.i64.max := by
   simp [IntKind.max, IntKind.signed, IntKind.bits]; omega
  simp only [binOp, Op.stringOp]
  rw [if_neg this]; rfl
 all_goals
  subst h
  refine ⟨_, .bool _, ?_⟩
  simp [binOp, Op.stringOp, toList_data, bytesEq_eq, bytesLt_eq]
end Go.Eng

