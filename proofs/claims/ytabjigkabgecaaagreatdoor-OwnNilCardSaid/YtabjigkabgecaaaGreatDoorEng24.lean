/-
  The abstract interpreter, its soundness: operations that read nothing, operations that only read, operations that make a block.
-/
import Derived.Test.YtabjigkabgecaaaGreatDoorEng23
namespace Go.Eng
variable {P : Program} {D : Tab} {φ : Phi} {s s1 : St} {w : World} {T : PT AV} {ρ : Operand → Value}

theorem v1_any {s s' : St} {x : Option AV} {v : AV} (h : v1 s x = some (.val v s')) (s2 : St) : v1 s2 x = some (.val v s2) := by
  obtain ⟨u, rfl, h2⟩ := v1_ok h
  simp at h2
  obtain ⟨rfl, rfl⟩ := h2
  rfl
theorem v1_same {s s' : St} {x : Option AV} {v : AV} (h : v1 s x = some (.val v s')) : s' = s := by
  obtain ⟨u, rfl, h2⟩ := v1_ok h
  simp at h2
  exact h2.2

theorem st1_same {s s' : St} {x : Option AV} {v : AV} (h : st1 s x = some (v, s')) : x = some v ∧ s' = s := by
  unfold st1 at h
  split at h
  · simp at h; exact ⟨by rw [h.1], h.2.symm⟩
  · simp at h

theorem pure_any {op : Op} (hk : kindOf D op = .pure) {v : AV} {s s' : St} (h : opA D T s op = some (.val v s')) (s2 : St) : opA D T s2 op = some (.val v s2) := by
  cases op <;> simp only [opA] at h ⊢ <;> first | (simp at h; done) | exact v1_any h s2 | (unfold kindOf at hk; simp at hk; done) | skip
  case pick => obtain ⟨a, h1, h⟩ := ev1_ok h; unfold ev1; simp only [h1]; exact v1_any h s2
  case field => obtain ⟨a, h1, h⟩ := ev1_ok h; unfold ev1; simp only [h1]; exact v1_any h s2
  case fieldAddr => obtain ⟨a, h1, h⟩ := ev1_ok h; unfold ev1; simp only [h1]; exact v1_any h s2
  case indexAddr => obtain ⟨a, b, h1, h2, h⟩ := ev2_ok h; unfold ev2; simp only [h1, h2]; exact v1_any h s2
  case index => obtain ⟨a, b, h1, h2, h⟩ := ev2_ok h; unfold ev2; simp only [h1, h2]; exact v1_any h s2
  case unOp => obtain ⟨a, h1, h⟩ := ev1_ok h; unfold ev1; simp only [h1]; exact v1_any h s2
  case extract => obtain ⟨a, h1, h⟩ := ev1_ok h; unfold ev1; simp only [h1]; exact v1_any h s2
  case makeInterface => obtain ⟨a, h1, h⟩ := ev1_ok h; unfold ev1; simp only [h1]; exact v1_any h s2
  case nilCheck => obtain ⟨a, h1, h⟩ := ev1_ok h; unfold ev1; simp only [h1]; exact v1_any h s2
  case build =>
    split at h
    · exact v1_any h s2
    · simp at h
  case makeFunc =>
    unfold fnOp at h ⊢
    split at h
    · split at h
      · simp at h; simp [h.1]
      · simp at h
    · simp at h
  case slice =>
    obtain ⟨a, h1, h⟩ := ev1_ok h; unfold ev1; simp only [h1]
    unfold sliceOp at h ⊢
    split at h
    · exact v1_any h s2
    · simp at h
  case binOp o t x y z =>
    obtain ⟨a, b, h1, h2, h⟩ := ev2_ok h
    unfold ev2; simp only [h1, h2]
    have : binA D s2 o t x y a b = binA D s o t x y a b := by
      have e1 : symA s2 o a b = symA s o a b := by
        unfold symA
        cases o <;> first | (simp [kindOf] at hk; done) | simp only [isCmp]
      have e2 : binB D s2 o t x y a b = binB D s o t x y a b := by
        unfold binB
        cases a <;> simp only
        all_goals
          unfold eqA
          cases o <;> first | (simp [kindOf] at hk; done) | simp only [isEq]
      unfold binA
      rw [e1, e2]
    rw [this]; exact v1_any h s2
  case convert a b x =>
    obtain ⟨u, h1, h⟩ := ev1_ok h; unfold ev1; simp only [h1]
    obtain ⟨v', s'', h2, h3⟩ := v2_ok h
    simp at h3
    obtain ⟨rfl, rfl⟩ := h3
    unfold kindOf at hk
    simp only at hk
    split at hk
    · rename_i r i hi
      unfold convS at h2 ⊢
      simp only [hi] at h2 ⊢
      split at h2
      · rename_i i' j' hi' hj'
        simp at hj'
        subst hj'
        simp only at h2 ⊢
        split at h2
        · simp at h2; simp [v2, h2.1]
        · simp at h2; simp [v2, h2.1]
        · simp at h2
      · simp at h2
    · simp at hk
  case call c =>
    obtain ⟨callee, args, ats⟩ := c
    cases callee <;> simp only [kindOf] at hk <;> first | (simp at hk; done) | skip
    rename_i b
    cases b <;> simp only [] at hk <;> first | (simp at hk; done) | skip
    all_goals
      simp only [callOp] at h ⊢
      split at h
      · simp at h
      · obtain ⟨v', s'', h2, h3⟩ := v2_ok h
        simp at h3
        obtain ⟨rfl, rfl⟩ := h3
        simp only [builtinA] at h2 ⊢
        split at h2
        · obtain ⟨h4, _⟩ := st1_same h2
          simp [h4, st1, v2]
        · simp at h2

theorem read_same {op : Op} (hk : kindOf D op = .read) {v : AV} {s s' : St} (h : opA D T s op = some (.val v s')) : s' = s := by
  cases op <;> simp only [opA] at h <;> first | (simp at h; done) | (unfold kindOf at hk; simp at hk; done) | skip
  case load => obtain ⟨a, h1, h⟩ := ev1_ok h; exact v1_same h
  case lookup => obtain ⟨a, b, h1, h2, h⟩ := ev2_ok h; exact v1_same h
  case binOp => obtain ⟨a, b, h1, h2, h⟩ := ev2_ok h; exact v1_same h
  case convert => unfold kindOf at hk; simp only at hk; split at hk <;> simp at hk
  case call c =>
    obtain ⟨callee, args, ats⟩ := c
    cases callee <;> simp only [kindOf] at hk <;> first | (simp at hk; done) | skip
    rename_i b
    cases b <;> simp only [] at hk <;> first | (simp at hk; done) | skip
    simp only [callOp] at h
    split at h
    · simp at h
    · obtain ⟨v', s'', h2, h3⟩ := v2_ok h
      simp at h3
      obtain ⟨rfl, rfl⟩ := h3
      simp only [builtinA] at h2
      split at h2
      · exact (st1_same h2).2
      · simp at h2

end Go.Eng
