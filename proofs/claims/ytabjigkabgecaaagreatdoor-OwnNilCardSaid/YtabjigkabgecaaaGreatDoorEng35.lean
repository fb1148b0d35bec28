/-
  The abstract interpreter: entries of the model's that are met: math/bits.Add64, math/bits.Sub64.
-/
import Derived.Test.YtabjigkabgecaaaGreatDoorEng34
import Derived.Laws.Externs
namespace Go.Eng
noncomputable section
variable {P : Program} {D : Tab}

def ExtOk (P : Program) (f : FuncId) (e : List AV → Option AV) : Prop :=
  ∀ φ as vs a, VRs φ as vs → e as = some a → ∃ v, VR φ a v ∧ ∀ w, (callFunc f vs.toArray).run P w = .ok (.value v) w

def two64 : Nat := 18446744073709551616

def add64 : List AV → Option AV
  | [.int .u64 x, .int .u64 y, .int .u64 c] =>
    (match Nat.ble c.toNat 1 with
     | true => some (.tuple [.int .u64 (Int.ofNat ((x.toNat + y.toNat + c.toNat) % two64)), .int .u64 (Int.ofNat ((x.toNat + y.toNat + c.toNat) / two64))])
     | false => none)
  | _ => none

def sub64 : List AV → Option AV
  | [.int .u64 x, .int .u64 y, .int .u64 c] =>
    (match Nat.ble c.toNat 1 with
     | true => some (.tuple [.int .u64 (Int.ofNat ((x.toNat + two64 - y.toNat - c.toNat) % two64)), .int .u64 (Int.ofNat (match Nat.blt x.toNat (y.toNat + c.toNat) with | true => 1 | false => 0))])
     | false => none)
  | _ => none

def sub64Entry : Array Value → Sem Value := fun args => do
  let (x, y, b) ← Extern.MathBitsCarry.three "Sub64" args
  pure (Extern.MathBitsCarry.pair ((x + Extern.MathBitsCarry.m64 - y - b) % Extern.MathBitsCarry.m64) (if x < y + b then 1 else 0))

theorem run_add64' (x y c : Int) (hc : c.toNat ≤ 1) (w : World) : (add64Entry #[.int .u64 x, .int .u64 y, .int .u64 c]).run P w =
    .ok (.tuple #[.int .u64 (Int.ofNat ((x.toNat + y.toNat + c.toNat) % two64)), .int .u64 (Int.ofNat ((x.toNat + y.toNat + c.toNat) / two64))]) w := by
  cases c with
  | ofNat k =>
    have : k = 0 ∨ k = 1 := by simp at hc; omega
    rcases this with rfl | rfl <;> rfl
  | negSucc k => rfl

theorem run_sub64' (x y c : Int) (hc : c.toNat ≤ 1) (w : World) : (sub64Entry #[.int .u64 x, .int .u64 y, .int .u64 c]).run P w =
    .ok (.tuple #[.int .u64 (Int.ofNat ((x.toNat + two64 - y.toNat - c.toNat) % two64)), .int .u64 (Int.ofNat (if x.toNat < y.toNat + c.toNat then 1 else 0))]) w := by
  cases c with
  | ofNat k =>
    have : k = 0 ∨ k = 1 := by simp at hc; omega
    rcases this with rfl | rfl <;> rfl
  | negSucc k => rfl

theorem add64_ok {f : FuncId} {fn : Func} (hf : P.funcs[f]? = some fn) (hname : (fn.name == "runtime.NumGoroutine") = false) (hb : fn.body.isNone = true) (hn : Extern.findNext fn = none) (he : Extern.find fn = some add64Entry) : ExtOk P f add64 := by
  intro φ as vs a hv h
  unfold add64 at h
  split at h
  · rename_i x y c
    split at h
    · rename_i hc
      have hc := ble_true hc
      simp only [Option.some.injEq] at h
      subst h
      cases hv with | cons h1 hv => cases hv with | cons h2 hv => cases hv with | cons h3 hv =>
      cases hv
      cases h1; cases h2; cases h3
      refine ⟨_, .tuple (.cons (.int _ _) (.cons (.int _ _) .nil)), fun w => ?_⟩
      rw [run_callFunc_extern hf hname hb hn he]
      rw [show ([Value.int .u64 x, Value.int .u64 y, Value.int .u64 c] : List Value).toArray = #[.int .u64 x, .int .u64 y, .int .u64 c] from rfl, run_add64' x y c hc]
      rfl
    · simp at h
  · simp at h

theorem sub64_ok {f : FuncId} {fn : Func} (hf : P.funcs[f]? = some fn) (hname : (fn.name == "runtime.NumGoroutine") = false) (hb : fn.body.isNone = true) (hn : Extern.findNext fn = none) (he : Extern.find fn = some sub64Entry) : ExtOk P f sub64 := by
  intro φ as vs a hv h
  unfold sub64 at h
  split at h
  · rename_i x y c
    split at h
    · rename_i hc
      have hc := ble_true hc
      simp only [Option.some.injEq] at h
      subst h
      cases hv with | cons h1 hv => cases hv with | cons h2 hv => cases hv with | cons h3 hv =>
      cases hv
      cases h1; cases h2; cases h3
      refine ⟨_, .tuple (.cons (.int _ _) (.cons (.int _ _) .nil)), fun w => ?_⟩
      rw [run_callFunc_extern hf hname hb hn he]
      rw [show ([Value.int .u64 x, Value.int .u64 y, Value.int .u64 c] : List Value).toArray = #[.int .u64 x, .int .u64 y, .int .u64 c] from rfl, run_sub64' x y c hc]
      simp only [Result.andThen_ok]
      by_cases hlt : x.toNat < y.toNat + c.toNat
      · have : Nat.blt x.toNat (y.toNat + c.toNat) = true := by simpa [Nat.blt, Nat.ble_eq] using (show x.toNat + 1 ≤ y.toNat + c.toNat from hlt)
        simp [hlt, this]
      · have : Nat.blt x.toNat (y.toNat + c.toNat) = false := by
          cases hb : Nat.blt x.toNat (y.toNat + c.toNat)
          · rfl
          · exact absurd (blt_true hb) hlt
        simp [hlt, this]
    · simp at h
  · simp at h

/-! ### internal/bytealg, at strings -/
def countS : List AV → Option AV
  | [.str s, .int .u8 c] => some (.int .i64 (s.foldl (fun n x => if x == c.toNat.toUInt8 then n + 1 else n) (0 : Nat)))
  | _ => none
def indexByteS : List AV → Option AV
  | [.str s, .int .u8 c] => some (.int .i64 (firstIdx s c.toNat.toUInt8))
  | _ => none
def compareS : List AV → Option AV
  | [.str a, .str b] => some (.int .i64 (Extern.BytealgCompare.cmp a b))
  | _ => none

theorem run_count (s : ByteArray) (c : Int) (w : World) : (Extern.BytealgCount.count #[.string s, .int .u8 c]).run P w = .ok (.int .i64 (s.foldl (fun n x => if x == c.toNat.toUInt8 then n + 1 else n) (0 : Nat))) w := by
  change Sem.run P (do
    let b ← Extern.Bytes.bytesOf (.string s)
    let c' ← Extern.Bytes.asByte (.int .u8 c)
    pure (goInt (b.foldl (fun n x => if x == c' then n + 1 else n) (0 : Nat)))) w = _
  simp only [Extern.Bytes.bytesOf, Extern.Bytes.asByte, Sem.run_bind, Sem.run_pure, Result.andThen]
  rfl

theorem run_compare (a b : ByteArray) (w : World) : (Extern.BytealgCompare.compare #[.string a, .string b]).run P w = .ok (.int .i64 (Extern.BytealgCompare.cmp a b)) w := by
  change Sem.run P (do pure (goInt (Extern.BytealgCompare.cmp (← Extern.Bytes.bytesOf (.string a)) (← Extern.Bytes.bytesOf (.string b))))) w = _
  simp only [Extern.Bytes.bytesOf, Sem.run_bind, Sem.run_pure, Result.andThen]
  rfl

theorem countS_ok {f : FuncId} {fn : Func} (hf : P.funcs[f]? = some fn) (hname : (fn.name == "runtime.NumGoroutine") = false) (hb : fn.body.isNone = true) (hn : Extern.findNext fn = none) (he : Extern.find fn = some Extern.BytealgCount.count) : ExtOk P f countS := by
  intro φ as vs a hv h
  unfold countS at h
  split at h
  · simp only [Option.some.injEq] at h
    subst h
    cases hv with | cons h1 hv => cases hv with | cons h2 hv =>
    cases hv
    cases h1; cases h2
    refine ⟨_, .int _ _, fun w => ?_⟩
    rw [run_callFunc_extern hf hname hb hn he]
    exact congrArg (fun x : Result Value => x.andThen fun v w' => (Result.ok (Next.value v) w' : Result Next)) (run_count _ _ w)
  · simp at h

theorem indexByteS_ok {f : FuncId} {fn : Func} (hf : P.funcs[f]? = some fn) (hname : (fn.name == "runtime.NumGoroutine") = false) (hb : fn.body.isNone = true) (hn : Extern.findNext fn = none) (he : Extern.find fn = some Extern.BytealgIndexByte.indexByte) : ExtOk P f indexByteS := by
  intro φ as vs a hv h
  unfold indexByteS at h
  split at h
  · simp only [Option.some.injEq] at h
    subst h
    cases hv with | cons h1 hv => cases hv with | cons h2 hv =>
    cases hv
    cases h1; cases h2
    refine ⟨_, .int _ _, fun w => ?_⟩
    rw [run_callFunc_extern hf hname hb hn he]
    exact congrArg (fun x : Result Value => x.andThen fun v w' => (Result.ok (Next.value v) w' : Result Next)) (run_indexByte_string _ _ w)
  · simp at h

theorem compareS_ok {f : FuncId} {fn : Func} (hf : P.funcs[f]? = some fn) (hname : (fn.name == "runtime.NumGoroutine") = false) (hb : fn.body.isNone = true) (hn : Extern.findNext fn = none) (he : Extern.find fn = some Extern.BytealgCompare.compare) : ExtOk P f compareS := by
  intro φ as vs a hv h
  unfold compareS at h
  split at h
  · simp only [Option.some.injEq] at h
    subst h
    cases hv with | cons h1 hv => cases hv with | cons h2 hv =>
    cases hv
    cases h1; cases h2
    refine ⟨_, .int _ _, fun w => ?_⟩
    rw [run_callFunc_extern hf hname hb hn he]
    exact congrArg (fun x : Result Value => x.andThen fun v w' => (Result.ok (Next.value v) w' : Result Next)) (run_compare _ _ w)
  · simp at h

theorem tabOk_two {f g : FuncId} {e e' : List AV → Option AV} (h : ExtOk P f e) (h' : ExtOk P g e') : TabOk P (Tab.mk' P [(f, e), (g, e')]) := TabOk.mk' fun k x hx => by
  simp only [lookN] at hx
  split at hx
  · rename_i hk
    simp at hx
    subst hx
    rw [← beq_true hk]; exact h
  · split at hx
    · rename_i hk
      simp at hx
      subst hx
      rw [← beq_true hk]; exact h'
    · simp at hx

/-! ### Tables with more entries -/
def ExtsOk (P : Program) (l : List (FuncId × (List AV → Option AV))) : Prop := ∀ f e, lookN l f = some e → ExtOk P f e
theorem ExtsOk.nil : ExtsOk P [] := fun _ _ h => by simp [lookN] at h
theorem ExtsOk.cons {f : FuncId} {e : List AV → Option AV} {l : List (FuncId × (List AV → Option AV))} (h : ExtOk P f e) (r : ExtsOk P l) : ExtsOk P ((f, e) :: l) := fun k x hx => by
  simp only [lookN] at hx
  split at hx
  · rename_i hk
    simp at hx
    subst hx
    rw [← beq_true hk]; exact h
  · exact r k x hx

def XstOk (P : Program) (f : FuncId) (e : St → List AV → Option (AV × St)) : Prop :=
  ∀ φ s w as vs a s', Rel φ s w → VRs φ as vs → e s as = some (a, s') → ∃ φ' w' v, (callFunc f vs.toArray).run P w = .ok (.value v) w' ∧ Stp φ s w φ' s' w' ∧ Rel φ' s' w' ∧ VR φ' a v
def XstsOk (P : Program) (l : List (FuncId × (St → List AV → Option (AV × St)))) : Prop := ∀ f e, lookN l f = some e → XstOk P f e
theorem XstsOk.nil : XstsOk P [] := fun _ _ h => by simp [lookN] at h
theorem XstsOk.cons {f : FuncId} {e : St → List AV → Option (AV × St)} {l : List (FuncId × (St → List AV → Option (AV × St)))} (h : XstOk P f e) (r : XstsOk P l) : XstsOk P ((f, e) :: l) := fun k x hx => by
  simp only [lookN] at hx
  split at hx
  · rename_i hk
    simp at hx
    subst hx
    rw [← beq_true hk]; exact h
  · exact r k x hx

def Tab.mkx (P : Program) (ext : List (FuncId × (List AV → Option AV))) (xst : List (FuncId × (St → List AV → Option (AV × St)))) : Tab := { Tab.mk' P ext with xst }

theorem tabOk_of {ext : List (FuncId × (List AV → Option AV))} {xst : List (FuncId × (St → List AV → Option (AV × St)))} (h : ExtsOk P ext) (hx : XstsOk P xst) : TabOk P (Tab.mkx P ext xst) where
  ty := (TabOk.mk' h).ty
  fn := (TabOk.mk' h).fn
  ms := (TabOk.mk' h).ms
  ext := h
  xst := hx

/-- maps.clone, of a map that is. -/
def cloneM (s : St) : List AV → Option (AV × St)
  | [.iface t (.map b)] =>
    match s.h.get b with
    | some (.map es ck) => some (.iface t (.map (s.new (.map es ck)).1), (s.new (.map es ck)).2)
    | _ => none
  | _ => none

theorem run_clone (t : TypeId) (r : Nat) (fs : Array MapEntry) (ck : Nat) {w : World} (g : (getObj r).run P w = .ok (.map fs ck) w) {w' : World} {k : Nat} (q : (newObj (.map fs ck)).run P w = .ok k w') :
    (Extern.MapsClone.clone #[.iface t (.map (some r))]).run P w = .ok (.iface t (.map (some k))) w' := by
  show ((getObj r >>= fun o => match o with
    | .map entries clock => (do pure (.iface t (.map (some (← newObj (.map entries clock))))) : Sem Value)
    | _ => stuck "maps.clone: a map expected").run P w) = _
  simp only [Sem.run_bind, g, Result.andThen_ok, q, Sem.run_pure]

theorem cloneM_ok {f : FuncId} {fn : Func} (hf : P.funcs[f]? = some fn) (hname : (fn.name == "runtime.NumGoroutine") = false) (hb : fn.body.isNone = true) (hn : Extern.findNext fn = none) (he : Extern.find fn = some Extern.MapsClone.clone) : XstOk P f cloneM := by
  intro φ s w as vs a s' hr hv h
  unfold cloneM at h
  split at h
  · rename_i t b
    split at h
    · rename_i es ck hm
      simp only [Option.some.injEq, Prod.mk.injEq] at h
      obtain ⟨rfl, rfl⟩ := h
      cases hv with | cons h1 hv =>
      cases hv
      cases h1 with | iface _ h1 =>
      cases h1 with | map hrb =>
      obtain ⟨fs, g1, g2⟩ := hr.map hm hrb
      obtain ⟨φ', w', q1, q2, q3, q4⟩ := new_other (P := P) hr (o := .map es ck) (ro := .map fs ck) (.map g2)
      refine ⟨φ', w', _, ?_, q2, q3, .iface t (.map q4)⟩
      rw [run_callFunc_extern hf hname hb hn he]
      exact congrArg (fun x : Result Value => x.andThen fun v w' => (Result.ok (Next.value v) w' : Result Next)) (run_clone t _ fs ck (run_getObj_of g1) q1)
    · simp at h
  · simp at h

end
end Go.Eng
