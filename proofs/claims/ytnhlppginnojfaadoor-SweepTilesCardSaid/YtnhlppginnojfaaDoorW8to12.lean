/-
  What is to be shown of code, with its loops; of a call.
  Blocks, slices, and how they go on.
  Calls that have to do with no block.
  Code that comes to one thing.
  Slices of what one likes.
  Words of contracts.
-/
import Derived.Test.YtnhlppginnojfaaDoorW5to7
set_option linter.unusedVariables false
set_option linter.unusedSimpArgs false
namespace Go.Eng
noncomputable section
variable {P : Program} {D : Tab}
def Cur : List CT → Type → Type
 | [], X => X
 | .int _ :: r, X => Int → Cur r X
 | .bool :: r, X => Bool → Cur r X
 | .str :: r, X => ByteArray → Cur r X
 | .any :: r, X => AV → Cur r X
abbrev SN := St → Nat → Prop
def ap : (l : List CT) → Cur l SN → List AV → SN
 | [], I, [] => I
 | .int k :: r, I, x :: xs => (match x with | .int k' n => (match decide (k' = k) with | true => ap r (I n) xs | false => fun _ _ => False) | _ => fun _ _ => False)
 | .bool :: r, I, x :: xs => (match x with | .bool b => ap r (I b) xs | _ => fun _ _ => False)
 | .str :: r, I, x :: xs => (match x with | .str b => ap r (I b) xs | _ => fun _ _ => False)
 | .any :: r, I, x :: xs => ap r (I x) xs
 | _, _, _ => fun _ _ => False
def allC : (l : List CT) → Cur l SN → (List AV → SN → Prop) → Prop
 | [], I, F => F [] I
 | .int k :: r, I, F => ∀ n : Int, allC r (I n) fun xs J => F (.int k n :: xs) J
 | .bool :: r, I, F => ∀ b : Bool, allC r (I b) fun xs J => F (.bool b :: xs) J
 | .str :: r, I, F => ∀ b : ByteArray, allC r (I b) fun xs J => F (.str b :: xs) J
 | .any :: r, I, F => ∀ v : AV, allC r (I v) fun xs J => F (v :: xs) J
theorem allC_ap : ∀ {l : List CT} {I : Cur l SN} {F : List AV → SN → Prop} {xs : List AV} {s : St} {m : Nat}, allC l I F → ap l I xs s m → ∃ J, F xs J ∧ J s m
 | [], I, _, [], _, _, h, ha => ⟨I, h, ha⟩
 | [], _, _, _ :: _, _, _, _, ha => ha.elim
 | .int _ :: _, _, _, [], _, _, _, ha => ha.elim
 | .bool :: _, _, _, [], _, _, _, ha => ha.elim
 | .str :: _, _, _, [], _, _, _, ha => ha.elim
 | .any :: _, _, _, [], _, _, _, ha => ha.elim
 | .int k :: r, I, F, x :: xs, s, m, h, ha => by
  have h' : ∀ n : Int, allC r (I n) fun xs J => F (.int k n :: xs) J := h
  cases x with
  | int k' n =>
   have ha' : (match decide (k' = k) with | true => ap r (I n) xs | false => fun _ _ => False) s m := ha
   cases hd : decide (k' = k) with
   | false => rw [hd] at ha'; exact ha'.elim
   | true =>
    rw [hd] at ha'
    have hk : k' = k := by simpa using hd
    rw [hk]
    exact allC_ap (l := r) (I := I n) (F := fun xs J => F (.int k n :: xs) J) (xs := xs) (h' n) ha'
  | _ => exact (show False from ha).elim
 | .bool :: r, I, F, x :: xs, s, m, h, ha => by
  have h' : ∀ n : Bool, allC r (I n) fun xs J => F (.bool n :: xs) J := h
  cases x with
  | bool b => exact allC_ap (l := r) (I := I b) (F := fun xs J => F (.bool b :: xs) J) (xs := xs) (h' b) ha
  | _ => exact (show False from ha).elim
 | .str :: r, I, F, x :: xs, s, m, h, ha => by
  have h' : ∀ n : ByteArray, allC r (I n) fun xs J => F (.str n :: xs) J := h
  cases x with
  | str b => exact allC_ap (l := r) (I := I b) (F := fun xs J => F (.str b :: xs) J) (xs := xs) (h' b) ha
  | _ => exact (show False from ha).elim
 | .any :: r, I, F, x :: xs, s, m, h, ha => by
  have h' : ∀ n : AV, allC r (I n) fun xs J => F (n :: xs) J := h
  exact allC_ap (l := r) (I := I x) (F := fun xs J => F (x :: xs) J) (xs := xs) (h' x) ha
def sh1 (v : AV) : CT :=
 match v with
 | .int k _ => .int k
 | .bool _ => .bool
 | .str _ => .str
 | _ => .any
def shs : List AV → List CT
 | [] => []
 | .agg cs :: r => cs.map sh1 ++ shs r
 | v :: r => sh1 v :: shs r
def flats : List AV → List AV → Option (List AV)
 | [], [] => some []
 | .agg cs :: r, .agg ds :: q => (match Nat.beq cs.length ds.length, flats r q with | true, some l => some (ds ++ l) | _, _ => none)
 | .agg _ :: _, _ => none
 | _ :: r, x :: q => (match flats r q with | some l => some (x :: l) | none => none)
 | _, _ => none
def mks : List AV → List AV → List AV
 | [], _ => []
 | .agg cs :: r, l => .agg (l.take cs.length) :: mks r (l.drop cs.length)
 | _ :: r, x :: l => x :: mks r l
 | _ :: _, [] => []
theorem mks_flats : ∀ {sh vs l : List AV}, flats sh vs = some l → mks sh l = vs
 | [], [], l, h => by simp [flats] at h; subst h; rfl
 | [], _ :: _, l, h => by simp [flats] at h
 | a :: r, vs, l, h => by
  cases a with
  | agg cs =>
   cases vs with
   | nil => simp [flats] at h
   | cons x q =>
    cases x with
    | agg ds =>
     simp only [flats] at h
     split at h
     ·rename_i l' hl hf
      simp at h; subst h
      have hl := beq_true hl
      simp only [mks]
      rw [hl]
      simp [mks_flats hf]
     ·simp at h
    | _ => simp [flats] at h
  | _ =>
   cases vs with
   | nil => simp [flats] at h
   | cons x q =>
    simp only [flats] at h
    split at h
    ·rename_i l' hf
     simp at h; subst h
     simp only [mks, mks_flats hf]
    ·simp at h
def getsT (T : PT AV) : List Nat → Option (List AV)
 | [] => some []
 | i :: r =>
  match T.get i, getsT T r with
  | some v, some l => some (v :: l)
  | _, _ => none
def delL (T : PT AV) : List Nat → PT AV
 | [] => T
 | i :: r => delL (T.del i) r
def setL (T : PT AV) : List Nat → List AV → PT AV
 | i :: r, v :: l => setL (T.set i v) r l
 | _, _ => T
theorem delL_get : ∀ {l : List Nat} {T : PT AV} {i : Nat} {x : AV}, (delL T l).get i = some x → memN l i = false ∧ T.get i = some x
 | [], T, i, x, h => ⟨rfl, h⟩
 | j :: r, T, i, x, h => by
  obtain ⟨h1, h2⟩ := delL_get (l := r) h
  rw [PT.get_del] at h2
  split at h2
  ·simp at h2
  ·rename_i e
   refine ⟨?_, h2⟩
   simp only [memN, h1, Bool.or_false]
   cases hb : Nat.beq j i with
   | false => rfl
   | true => exact absurd (beq_true hb).symm e
theorem delL_of : ∀ {l : List Nat} {T : PT AV} {i : Nat}, memN l i = false → (delL T l).get i = T.get i
 | [], T, i, _ => rfl
 | j :: r, T, i, h => by
  simp only [memN, Bool.or_eq_false_iff] at h
  simp only [delL]
  rw [delL_of h.2, PT.get_del, if_neg (by rintro rfl; simp at h)]
theorem setL_sub {T' : PT AV} : ∀ {l : List Nat} {vs : List AV} {A : PT AV}, getsT T' l = some vs → (∀ i x, A.get i = some x → T'.get i = some x) → ∀ i x, (setL A l vs).get i = some x → T'.get i = some x
 | [], vs, A, _, hA, i, x, h => hA i x (by simpa [setL] using h)
 | j :: r, vs, A, hg, hA, i, x, h => by
  simp only [getsT] at hg
  split at hg
  ·rename_i v l hv hl
   simp at hg; subst hg
   simp only [setL] at h
   refine setL_sub hl (fun i x hx => ?_) i x h
   rw [PT.get_set] at hx
   split at hx
   ·rename_i e; subst e; rw [hv]; exact hx
   ·exact hA i x hx
  ·simp at hg
theorem setL_of : ∀ {l : List Nat} {vs : List AV} {A : PT AV} {i : Nat}, memN l i = false → (setL A l vs).get i = A.get i
 | [], vs, A, i, _ => by simp [setL]
 | j :: r, [], A, i, _ => by simp [setL]
 | j :: r, v :: vs, A, i, h => by
  simp only [memN, Bool.or_eq_false_iff] at h
  simp only [setL]
  rw [setL_of h.2, PT.get_set, if_neg (by rintro rfl; simp at h)]
def setLit (T : PT AV) (c : Operand) (b : Bool) : PT AV :=
 match c with
 | .tmp i => T.set i (.bool b)
 | _ => T
def jkey : Code → Nat
 | .cond c _ _ => (match c with | .tmp i => 3 * i + 3 | _ => 0)
 | .block id _ => 3 * id + 1
 | .region id _ _ => 3 * id + 2
 | .seq _ y => jkey y
 | .scope x => jkey x
 | _ => 0
def jnOf (C : Cx) (x : Code) : Option (List Nat × List Nat × List AV) :=
 match C.jns with
 | [] => none
 | l => lookN l (jkey x)
def rfkey : List Tmp → Nat
 | [] => 0
 | p :: _ => p + 1
def jmps : Code → List Ex
 | .ret => [.ret]
 | .exit id => [.exit id]
 | .seq x y => jmps x ++ jmps y
 | .cond _ x y => jmps x ++ jmps y
 | .block id x => (jmps x).filter fun e => (match e with | .exit i => !Nat.beq i id | _ => true)
 | .scope x => jmps x
 | .loop x => jmps x
 | _ => []
def codeIn : Cx → (Nat → Bool) → Nat → Code → Bool
 | _, _, _, .skip => true
 | _, _, _, .label _ => true
 | _, _, _, .ret => true
 | _, _, _, .exit _ => true
 | C, asg, b, .seq x y => codeIn C asg b x && codeIn C asg b y && (match jnOf C x with | some q => q.1.all asg | none => true)
 | C, asg, b, .cond _ x y => codeIn C asg b x && codeIn C asg b y
 | C, asg, _, .block id x => codeIn C asg id x
 | C, asg, b, .scope x => codeIn C asg b x
 | C, asg, b, .loop x => (match lookN C.lps b with | some q => q.1.all asg && q.2.all (memN q.1) && codeIn C asg b x | none => false)
 | _, asg, _, .region _ ops _ => ops.toList.all (dstIn asg)
 | C, _, b, .rangeFunc _ ps assign body => (match lookN C.rf (rfkey ps.toList) with | some _ => codeIn C.norf (fun _ => true) b assign && codeIn C.norf (fun _ => true) b body | none => false)
 | _, _, _, _ => false
def loopQ (sh : List AV) (lv : List Nat) (l : List CT) (I : Cur l SN) (ds : List Nat) (m : Nat) (Q : Ex → Cf → Prop) (e : Ex) (cf : Cf) : Prop :=
 match e with
 | .normal =>
  match eqNs cf.ds ds with
  | true => (match getsT cf.t lv with | some vs => (match flats sh vs with | some fl => ∃ m', m' < m ∧ ap l I fl cf.s m' | none => False) | none => False)
  | false => False
 | e => Q e cf
def joinBad (_ : Nat) (_ : List AV) : Prop := False
def joinQ (k : Nat) (sh : List AV) (lv : List Nat) (l : List CT) (J : Cur l SN) (ds : List Nat) (Q : Ex → Cf → Prop) (e : Ex) (cf : Cf) : Prop :=
 match e with
 | .normal =>
  match eqNs cf.ds ds with
  | true => (match getsT cf.t lv with | some vs => (match flats sh vs with | some fl => ∃ m', ap l J fl cf.s m' | none => joinBad k vs) | none => joinBad k [])
  | false => False
 | e => Q e cf
def maskS : List Bool → List AV → List AV
 | true :: r, _ :: q => .nilptr :: maskS r q
 | false :: r, x :: q => x :: maskS r q
 | _, q => q
def mskOf (C : Cx) (b : Nat) (sh : List AV) : List AV :=
 match lookN C.msk b with
 | some mk => maskS mk sh
 | none => sh
def objAt (s : St) (b : Nat) : Option AObj := s.h.get b
def allC1 : List CT → (List AV → Prop) → Prop
 | [], K => K []
 | .int k :: r, K => ∀ n : Int, allC1 r fun l => K (.int k n :: l)
 | .bool :: r, K => ∀ b : Bool, allC1 r fun l => K (.bool b :: l)
 | .str :: r, K => ∀ b : ByteArray, allC1 r fun l => K (.str b :: l)
 | .any :: r, K => ∀ v : AV, allC1 r fun l => K (v :: l)
theorem allC1_of : ∀ {l : List CT} {K : List AV → Prop}, (∀ x, K x) → allC1 l K
 | [], _, h => h _
 | .int _ :: r, _, h => fun _ => allC1_of (l := r) fun _ => h _
 | .bool :: r, _, h => fun _ => allC1_of (l := r) fun _ => h _
 | .str :: r, _, h => fun _ => allC1_of (l := r) fun _ => h _
 | .any :: r, _, h => fun _ => allC1_of (l := r) fun _ => h _
def allT (D : Tab) (t : TypeId) (K : AV → Prop) : Prop :=
 match D.ty.get t with
 | none => True
 | some i =>
  match isAggT i.d with
  | true => (match ctsN D 24 t with | some l => allC1 l fun cs => K (.agg cs) | none => ∀ v, K v)
  | false => allC1 [ctOf i.d] fun cs => match cs with | [v] => K v | _ => True
theorem allT_of {D : Tab} {t : TypeId} {K : AV → Prop} (h : ∀ x, K x) : allT D t K := by
 unfold allT
 split
 ·trivial
 ·split
  ·split
   ·exact allC1_of fun _ => h _
   ·exact h
  ·refine allC1_of fun cs => ?_
   split
   ·exact h _
   ·trivial
def allTs (D : Tab) : List TypeId → (List AV → Prop) → Prop
 | [], K => K []
 | t :: r, K => allT D t fun v => allTs D r fun l => K (v :: l)
theorem allTs_of {D : Tab} : ∀ {l : List TypeId} {K : List AV → Prop}, (∀ x, K x) → allTs D l K
 | [], _, h => h _
 | _ :: _, _, h => allT_of fun _ => allTs_of fun _ => h _
def asgQ (l : Nat) (lo : Option Code → LoopState → AObj) (K : Cf → Prop) (e : Ex) (cf : Cf) : Prop :=
 match e with
 | .normal => objAt cf.s l = some (lo none .ready) ∧ K ⟨cf.t, cf.n, hsetS cf.s l (lo none .busy), cf.ds⟩
 | _ => False
def rndQ (l : Nat) (lo : Option Code → LoopState → AObj) (R : AV → St → Prop) (e : Ex) (cf : Cf) : Prop :=
 match cf.ds with
 | _ :: _ => False
 | [] =>
  match e with
  | .normal => objAt cf.s l = some (lo none .busy) ∧ R (.bool true) (hsetS cf.s l (lo none .ready))
  | .exit id => objAt cf.s l = some (lo none .busy) ∧ R (.bool false) (hsetS cf.s l (lo (some (.exit id)) .done))
  | .ret => objAt cf.s l = some (lo none .busy) ∧ R (.bool false) (hsetS cf.s l (lo (some .ret) .done))
theorem new_fr {s : St} {o : AObj} (h : Fr s) : Fr (s.new o).2 := by
 intro c hc
 simp only [St.new] at hc ⊢
 rw [PT.get_set, if_neg (by omega)]
 exact h c (by omega)
def itK (P : Program) (D : Tab) (s : St) (f : AV) (l : Nat) (K : St → Prop) : Prop :=
 match f with
 | .func q first caps => (match D.fn.get q with | some _ => CallsA P q (first ++ [.yld l] ++ caps) s fun _ s' => K s' | none => False)
 | _ => False
def itKD (P : Program) (D : Tab) (s : St) (f : AV) (l : Nat) (K : St → Prop) : Prop :=
 match f with
 | .func q first caps => (match D.fn.get q with | some _ => CallsD P q (first ++ [.yld l] ++ caps) s fun _ s' => K s' | none => False)
 | _ => False
def rfE1 (l : Nat) (lo : Option Code → LoopState → AObj) (s : St) (K : Ex → St → Prop) (e : Ex) : Prop :=
 match e with
 | .normal => objAt s l = some (lo none .ready) ∧ K .normal (hsetS s l (lo none .exhausted))
 | .exit id => objAt s l = some (lo (some (.exit id)) .done) ∧ K (.exit id) (hsetS s l (lo (some (.exit id)) .exhausted))
 | .ret => objAt s l = some (lo (some .ret) .done) ∧ K .ret (hsetS s l (lo (some .ret) .exhausted))
def rfE (l : Nat) (lo : Option Code → LoopState → AObj) (s : St) (K : Ex → St → Prop) : List Ex → Prop
 | [] => False
 | [e] => rfE1 l lo s K e
 | e :: r => rfE1 l lo s K e ∨ rfE l lo s K r
theorem rfE1_ok {l : Nat} {lo : Option Code → LoopState → AObj} {s : St} {K : Ex → St → Prop} {e : Ex} (h : rfE1 l lo s K e) : ∃ e st, objAt s l = some (lo (jmpOf e) st) ∧ st ≠ .busy ∧ K e (hsetS s l (lo (jmpOf e) .exhausted)) := by
 cases e with
 | normal => exact ⟨.normal, _, h.1, by simp, h.2⟩
 | exit id => exact ⟨.exit id, _, h.1, by simp, h.2⟩
 | ret => exact ⟨.ret, _, h.1, by simp, h.2⟩
theorem rfE_ok {l : Nat} {lo : Option Code → LoopState → AObj} {s : St} {K : Ex → St → Prop} : ∀ {es : List Ex}, rfE l lo s K es → ∃ e st, objAt s l = some (lo (jmpOf e) st) ∧ st ≠ .busy ∧ K e (hsetS s l (lo (jmpOf e) .exhausted))
 | [], h => h.elim
 | [_], h => rfE1_ok h
 | _ :: _ :: _, h => h.elim rfE1_ok fun h => rfE_ok (es := _ :: _) h
def wpC (P : Program) : Cx → Nat → Code → Cf → (Ex → Cf → Prop) → Prop
 | _, _, .skip, cf, Q => Q .normal cf
 | _, _, .label _, cf, Q => Q .normal cf
 | _, _, .ret, cf, Q => Q .ret cf
 | _, _, .exit id, cf, Q => Q (.exit id) cf
 | C, b, .seq x y, cf, Q =>
  match jnOf C x with
  | none => wpC P C b x cf (thenK (fun cf' => wpC P C b y cf' Q) Q)
  | some q =>
   match codeIn C (memN q.1) b x && q.2.1.all (memN q.1) with
   | false => False
   | true =>
    ∃ J : Cur (shs q.2.2) SN, wpC P C b x cf (joinQ (jkey x) q.2.2 q.2.1 (shs q.2.2) J cf.ds Q) ∧
     allC (shs q.2.2) J fun xs F => ∀ (s : St) (m : Nat), F s m → wpC P C b y ⟨setL (delL cf.t q.1) q.2.1 (mks q.2.2 xs), cf.n, s, cf.ds⟩ Q
 | C, b, .cond c x y, cf, Q =>
  evK cf.t c fun v =>
   match v with
   | .bool y' => bsel y' (wpC P C b x ⟨setLit cf.t c true, cf.n, cf.s, cf.ds⟩ Q) (wpC P C b y ⟨setLit cf.t c false, cf.n, cf.s, cf.ds⟩ Q)
   | _ => False
 | C, _, .block id x, cf, Q => wpC P C id x cf (blockK id Q)
 | C, b, .scope x, cf, Q => wpC P C b x cf Q
 | C, b, .loop x, cf, Q =>
  match lookN C.lps b with
  | none => False
  | some q =>
   match codeIn C (memN q.1) b x with
   | false => False
   | true =>
    match getsT cf.t q.2 with
    | none => False
    | some sh0 =>
     (fun sh : List AV => match flats sh sh0 with
     | none => False
     | some fl =>
      ∃ I : Cur (shs sh) SN, (∃ m, ap (shs sh) I fl cf.s m) ∧
       allC (shs sh) I fun xs J => ∀ (s : St) (m : Nat), J s m → wpC P C b x ⟨setL (delL cf.t q.1) q.2 (mks sh xs), cf.n, s, cf.ds⟩ (loopQ sh q.2 (shs sh) I cf.ds m Q)) (mskOf C b sh0)
 | C, _, .region _ ops d, cf, Q =>
  match d with
  | false => seqK P C ops ops.toList cf.t cf.n cf.s fun T s => Q .normal ⟨T, cf.n, s, cf.ds⟩
  | true => drawR P C ops cf.t cf.n cf.s fun T s => Q .normal ⟨T, cf.n, s, cf.ds⟩
 | C, b, .rangeFunc g ps assign body, cf, Q =>
  match C.det with
  | true =>
   match lookN C.rf (rfkey ps.toList) with
   | none => False
   | some ts =>
    evK cf.t g fun f => ∀ (md : Nat) (s1 : St), NewO cf.s (.dfd true) md s1 → ∀ (lo : Option Code → LoopState → AObj) (l : Nat) (s2 : St), NewO s1 (lo none .ready) l s2 →
     (allTs C.D ts fun xs => ∀ (s : St) (R : AV → St → Prop), objAt s l = some (lo none .ready) →
      (match setPs cf.n cf.t ps.toList xs with
      | none => False
      | some t' => wpC P C.norf b assign ⟨t', cf.n, s, []⟩ (asgQ l lo fun cf1 => wpC P C.norf b body cf1 (rndQ l lo R))) → RoundD P l xs s R) →
     itKD P C.D s2 f l fun s3 => rfE l lo s3 (fun e s4 => Q e ⟨cf.t, cf.n, s4, md :: cf.ds⟩) (.normal :: jmps body)
  | false =>
   match lookN C.rf (rfkey ps.toList) with
   | none => False
   | some ts =>
    evK cf.t g fun f => ∀ (md : Nat) (s1 : St), NewO cf.s (.dfd true) md s1 → ∀ (lo : Option Code → LoopState → AObj) (l : Nat) (s2 : St), NewO s1 (lo none .ready) l s2 →
     (allTs C.D ts fun xs => ∀ (s : St) (R : AV → St → Prop), objAt s l = some (lo none .ready) →
      (match setPs cf.n cf.t ps.toList xs with
      | none => False
      | some t' => wpC P C.norf b assign ⟨t', cf.n, s, []⟩ (asgQ l lo fun cf1 => wpC P C.norf b body cf1 (rndQ l lo R))) → RoundA P l xs s R) →
     itK P C.D s2 f l fun s3 => rfE l lo s3 (fun e s4 => Q e ⟨cf.t, cf.n, s4, md :: cf.ds⟩) (.normal :: jmps body)
 | _, _, _, _, _ => False
theorem eqNs_eq : ∀ {a b : List Nat}, eqNs a b = true → a = b
 | [], [], _ => rfl
 | x :: a, y :: b, h => by
  simp only [eqNs, Bool.and_eq_true] at h
  rw [beq_true h.1, eqNs_eq h.2]
 | [], _ :: _, h => by simp [eqNs] at h
 | _ :: _, [], h => by simp [eqNs] at h
theorem setLit_eq {T : PT AV} {c : Operand} {b : Bool} (h : ev T c = some (.bool b)) : setLit T c b = T := by
 unfold setLit
 split
 ·exact PT.set_same h
 ·rfl
theorem codeIn_and {C : Cx} {a a' : Nat → Bool} : ∀ {x : Code} {b : Nat}, codeIn C a b x = true → codeIn C a' b x = true → codeIn C (fun i => a i && a' i) b x = true
 | .skip, _, _, _ => rfl
 | .label _, _, _, _ => rfl
 | .ret, _, _, _ => rfl
 | .exit _, _, _, _ => rfl
 | .seq x y, b, h, h' => by
  simp only [codeIn, Bool.and_eq_true] at h h' ⊢
  refine ⟨⟨codeIn_and h.1.1 h'.1.1, codeIn_and h.1.2 h'.1.2⟩, ?_⟩
  cases hj : jnOf C x with
  | none => rfl
  | some q =>
   have h1 := h.2
   have h2 := h'.2
   rw [hj] at h1 h2
   simp only [List.all_eq_true, Bool.and_eq_true] at h1 h2 ⊢
   exact fun i hi => ⟨h1 i hi, h2 i hi⟩
 | .cond _ x y, b, h, h' => by
  simp only [codeIn, Bool.and_eq_true] at h h' ⊢
  exact ⟨codeIn_and h.1 h'.1, codeIn_and h.2 h'.2⟩
 | .block id x, b, h, h' => by
  simp only [codeIn] at h h' ⊢
  exact codeIn_and h h'
 | .scope x, b, h, h' => by
  simp only [codeIn] at h h' ⊢
  exact codeIn_and h h'
 | .loop x, b, h, h' => by
  simp only [codeIn] at h h' ⊢
  split at h
  ·rename_i q hq
   rw [hq] at h'
   simp only [Bool.and_eq_true, List.all_eq_true] at h h' ⊢
   exact ⟨⟨fun i hi => ⟨h.1.1 i hi, h'.1.1 i hi⟩, h.1.2⟩, codeIn_and h.2 h'.2⟩
  ·simp at h
 | .region _ ops _, b, h, h' => by
  simp only [codeIn, List.all_eq_true] at h h' ⊢
  intro o ho
  have h1 := h o ho
  have h2 := h' o ho
  unfold dstIn at h1 h2 ⊢
  split <;> simp_all
 | .goto _, _, h, _ => by simp [codeIn] at h
 | .refuse _, _, h, _ => by simp [codeIn] at h
 | .rangeFunc .., _, h, _ => by
  simp only [codeIn] at h ⊢
  exact h
theorem join_fewer {T T' : PT AV} {asgJ lv : List Nat} {sh vs fl : List AV} (hP : ∀ i, memN asgJ i = false → T'.get i = T.get i) (hv : getsT T' lv = some vs) (hf : flats sh vs = some fl) :
  ∀ i y, (setL (delL T asgJ) lv (mks sh fl)).get i = some y → T'.get i = some y := by
 rw [mks_flats hf]
 refine setL_sub hv fun i y hy => ?_
 obtain ⟨e1, e2⟩ := delL_get hy
 rw [hP i e1]; exact e2
theorem join_pres {asg : Nat → Bool} {T : PT AV} {asgJ lv : List Nat} {vs : List AV} (h1 : asgJ.all asg = true) (h2 : lv.all (memN asgJ) = true) : Pres asg T (setL (delL T asgJ) lv vs) := by
 simp only [List.all_eq_true] at h1 h2
 intro i hi
 have g1 : memN asgJ i = false := by
  cases hb : memN asgJ i with
  | false => rfl
  | true =>
   have := h1 i (memN_iff.1 hb)
   rw [hi] at this; simp at this
 have g2 : memN lv i = false := by
  cases hb : memN lv i with
  | false => rfl
  | true =>
   have := h2 i (memN_iff.1 hb)
   rw [g1] at this; simp at this
 rw [setL_of g2, delL_of g1]
theorem RunA.fewer {rnd : Option Nat} {fn : FuncId} {code : Code} {cf cf1 : Cf} {Q : Ex → Cf → Prop} (h : RunA P rnd fn code cf1 Q) (ht : ∀ i y, cf1.t.get i = some y → cf.t.get i = some y) (hn : cf1.n = cf.n) (hds : cf1.ds = cf.ds) (hs : cf1.s = cf.s) : RunA P rnd fn code cf Q := by
 intro φ a w b' k cs hcf hb hk hr
 have := h φ a w b' k cs (hcf.fewer ht hn hds hs) hb hk hr
 rw [hs] at this
 exact this
theorem wpC_ok (hmix : P.follows .mixedOrders = true) {fn : FuncId} : ∀ (x : Code) {C : Cx} (hD : TabOk P C.D) (hX : C.D.xst = []) (hnd : C.det = false) {rnd : Option Nat} (hrf : rnd = none ∨ C.rf = []) (b : Nat) (cf : Cf) (Q : Ex → Cf → Prop) (asg : Nat → Bool), codeIn C asg b x = true → wpC P C b x cf Q → RunA P rnd fn x cf fun e cf' => Q e cf' ∧ Pres asg cf.t cf'.t ∧ cf'.n = cf.n
 | .skip, C, hD, hX, hnd, rnd, hrf, b, cf, Q, asg, _, h => .skip ⟨h, .refl _ _, rfl⟩
 | .label _, C, hD, hX, hnd, rnd, hrf, b, cf, Q, asg, _, h => .label ⟨h, .refl _ _, rfl⟩
 | .ret, C, hD, hX, hnd, rnd, hrf, b, cf, Q, asg, _, h => .ret ⟨h, .refl _ _, rfl⟩
 | .exit _, C, hD, hX, hnd, rnd, hrf, b, cf, Q, asg, _, h => .exit ⟨h, .refl _ _, rfl⟩
 | .seq x y, C, hD, hX, hnd, rnd, hrf, b, cf, Q, asg, hc, h => by
  simp only [codeIn, Bool.and_eq_true] at hc
  simp only [wpC] at h
  split at h
  ·refine .seq ((wpC_ok hmix (fn := fn) x hD hX hnd hrf b cf _ asg hc.1.1 h).mono fun e cf1 ⟨h1, h2, h3⟩ => ?_)
   cases e with
   | normal => exact (wpC_ok hmix (fn := fn) y hD hX hnd hrf b cf1 Q asg hc.1.2 h1).mono fun e cf2 ⟨q1, q2, q3⟩ => ⟨q1, h2.trans q2, q3.trans h3⟩
   | exit i => exact ⟨h1, h2, h3⟩
   | ret => exact ⟨h1, h2, h3⟩
  ·rename_i q hq
   rw [hq] at hc
   split at h
   ·exact h.elim
   ·rename_i hin
    simp only [Bool.and_eq_true] at hin
    obtain ⟨J, hx, hall⟩ := h
    refine .seq ((wpC_ok hmix (fn := fn) x hD hX hnd hrf b cf _ _ (codeIn_and hin.1 hc.1.1) hx).mono fun e cf1 ⟨h1, h2, h3⟩ => ?_)
    have gP : Pres asg cf.t cf1.t := fun i hi => h2 i (by simp [hi])
    cases e with
    | exit i => exact ⟨h1, gP, h3⟩
    | ret => exact ⟨h1, gP, h3⟩
    | normal =>
     simp only [joinQ] at h1
     split at h1
     ·rename_i hds
      split at h1
      ·rename_i vs hvs
       split at h1
       ·rename_i fl hfl
        obtain ⟨m, hap⟩ := h1
        obtain ⟨F, k1, k2⟩ := allC_ap hall hap
        refine RunA.fewer ((wpC_ok hmix (fn := fn) y hD hX hnd hrf b _ Q asg hc.1.2 (k1 _ _ k2)).mono fun e cf2 ⟨q1, q2, q3⟩ => ⟨q1, (join_pres hc.2 hin.2).trans q2, q3⟩) (join_fewer (fun i hi => h2 i (by simp [hi])) hvs hfl) h3.symm (eqNs_eq hds).symm rfl
       ·exact h1.elim
      ·exact h1.elim
     ·exact h1.elim
 | .cond c x y, C, hD, hX, hnd, rnd, hrf, b, cf, Q, asg, hc, h => by
  simp only [codeIn, Bool.and_eq_true] at hc
  simp only [wpC] at h
  obtain ⟨v, hv, h⟩ := optK_ok h
  split at h
  ·rename_i y'
   refine .cond hv (fun e => ?_) (fun e => ?_)
   ·subst e
    rw [setLit_eq hv] at h
    exact wpC_ok hmix (fn := fn) x hD hX hnd hrf b cf Q asg hc.1 h
   ·subst e
    rw [setLit_eq hv] at h
    exact wpC_ok hmix (fn := fn) y hD hX hnd hrf b cf Q asg hc.2 h
  ·exact h.elim
 | .block id x, C, hD, hX, hnd, rnd, hrf, b, cf, Q, asg, hc, h => by
  simp only [codeIn] at hc
  simp only [wpC] at h
  refine .block ((wpC_ok hmix (fn := fn) x hD hX hnd hrf id cf _ asg hc h).mono fun e cf1 ⟨h1, h2, h3⟩ => ?_)
  cases e with
  | normal => exact ⟨h1, h2, h3⟩
  | ret => exact ⟨h1, h2, h3⟩
  | exit i =>
   simp only [blockK] at h1 ⊢
   cases hb : Nat.beq i id with
   | true => rw [hb] at h1; exact ⟨h1, h2, h3⟩
   | false => rw [hb] at h1; exact ⟨h1, h2, h3⟩
 | .scope x, C, hD, hX, hnd, rnd, hrf, b, cf, Q, asg, hc, h => by
  simp only [codeIn] at hc
  simp only [wpC] at h
  exact .scope (wpC_ok hmix (fn := fn) x hD hX hnd hrf b cf Q asg hc h)
 | .loop x, C, hD, hX, hnd, rnd, hrf, b, cf, Q, asg, hc, h => by
  simp only [wpC] at h
  simp only [codeIn] at hc
  split at h
  ·exact h.elim
  ·rename_i q hq
   rw [hq] at hc
   simp only [Bool.and_eq_true, List.all_eq_true] at hc
   split at h
   ·exact h.elim
   ·rename_i hin
    split at h
    ·exact h.elim
    ·rename_i sh0 hsh
     generalize mskOf C b sh0 = sh at h
     split at h
     ·exact h.elim
     ·rename_i fl hfl
      obtain ⟨I, ⟨m0, h0⟩, hall⟩ := h
      let T0 := delL cf.t q.1
      have hboth := codeIn_and hin hc.2
      let J : Nat → Cf → Prop := fun m cf1 => ∃ xs s, ap (shs sh) I xs s m ∧ cf1 = ⟨setL T0 q.2 (mks sh xs), cf.n, s, cf.ds⟩
      have hheadP : ∀ xs, Pres asg cf.t (setL T0 q.2 (mks sh xs)) := by
       intro xs i hi
       have h1 : memN q.1 i = false := by
        cases hb : memN q.1 i with
        | false => rfl
        | true =>
         have := hc.1.1 i (memN_iff.1 hb)
         rw [hi] at this; simp at this
       have h2 : memN q.2 i = false := by
        cases hb : memN q.2 i with
        | false => rfl
        | true =>
         have := hc.1.2 i (memN_iff.1 hb)
         rw [h1] at this; simp at this
       rw [setL_of h2, delL_of h1]
      have hheadP2 : ∀ xs i, memN q.1 i = false → (setL T0 q.2 (mks sh xs)).get i = cf.t.get i := by
       intro xs i h1
       have h2 : memN q.2 i = false := by
        cases hb : memN q.2 i with
        | false => rfl
        | true =>
         have := hc.1.2 i (memN_iff.1 hb)
         rw [h1] at this; simp at this
       rw [setL_of h2, delL_of h1]
      refine .loop ?_
      have hstart : LoopA P rnd fn x ⟨setL T0 q.2 (mks sh fl), cf.n, cf.s, cf.ds⟩ fun e cf' => Q e cf' ∧ Pres asg cf.t cf'.t ∧ cf'.n = cf.n := by
       refine LoopA.inv J (m := m0) ⟨fl, cf.s, h0, rfl⟩ ?_
       rintro m cf1 ⟨xs, s, hap, rfl⟩
       obtain ⟨J', h1, h2⟩ := allC_ap hall hap
       have hrun := wpC_ok hmix (fn := fn) x hD hX hnd hrf b _ _ _ hboth (h1 s m h2)
       refine hrun.mono fun e cf2 ⟨g1, g2, g3⟩ => ?_
       have gP : Pres asg cf.t cf2.t := (hheadP xs).trans fun i hi => g2 i (by simp [hi])
       cases e with
       | exit i => exact ⟨g1, gP, g3⟩
       | ret => exact ⟨g1, gP, g3⟩
       | normal =>
        simp only [loopQ] at g1
        split at g1
        ·rename_i hds
         split at g1
         ·rename_i vs hvs
          split at g1
          ·rename_i fl' hfl'
           obtain ⟨m', hm, hap'⟩ := g1
           refine ⟨m', ⟨setL T0 q.2 (mks sh fl'), cf.n, cf2.s, cf.ds⟩, hm, ⟨fl', cf2.s, hap', rfl⟩, ?_, g3.symm, (eqNs_eq hds).symm, rfl⟩
           rw [mks_flats hfl']
           refine setL_sub hvs fun i y hy => ?_
           obtain ⟨e1, e2⟩ := delL_get hy
           rw [g2 i (by simp [e1]), hheadP2 xs i e1]
           exact e2
          ·exact g1.elim
         ·exact g1.elim
        ·exact g1.elim
      intro φ a w b' k cs hcf hb hk hr
      refine hstart φ a w b' k cs (hcf.fewer ?_ rfl rfl rfl) hb hk hr
      rw [mks_flats hfl]
      exact setL_sub hsh fun i y hy => (delL_get hy).2
 | .region id ops d, C, hD, hX, hnd, rnd, hrf, b, cf, Q, asg, hc, h => by
  simp only [codeIn, List.all_eq_true] at hc
  simp only [wpC] at h
  cases d with
  | false =>
   refine .region ?_
   intro φ a w b' k cs hcf
   obtain ⟨cf', ⟨q1, q2, q3, q4⟩, r⟩ := seqK_ok (P := P) hD hX (asg := asg) ops.toList 0 cf _ (by simp) hc h φ a w b' k cs hcf
   refine ⟨cf', ⟨?_, q2, q3⟩, r⟩
   obtain ⟨t, n, s, ds⟩ := cf'
   simp only at q3 q4
   subst q3; subst q4
   exact q1
  | true =>
   have key : ∀ e cf', (e = Ex.normal ∧ Q .normal ⟨cf'.t, cf.n, cf'.s, cf.ds⟩ ∧ Pres asg cf.t cf'.t ∧ cf'.n = cf.n ∧ cf'.ds = cf.ds) → Q e cf' ∧ Pres asg cf.t cf'.t ∧ cf'.n = cf.n := by
    rintro e cf' ⟨he, q1, q2, q3, q4⟩
    refine ⟨?_, q2, q3⟩
    obtain ⟨t, n, s, ds⟩ := cf'
    simp only at q3 q4
    subst q3; subst q4; subst he
    exact q1
   exact (RunA.draw hD hX hmix hc h).mono key
 | .goto _, C, hD, hX, hnd, rnd, hrf, _, _, _, _, _, h => h.elim
 | .refuse _, C, hD, hX, hnd, rnd, hrf, _, _, _, _, _, h => h.elim
 | .rangeFunc g ps assign body, C, hD, hX, hnd, rnd, hrf, b, cf, Q, asg, hc, h => by
  simp only [codeIn] at hc
  simp only [wpC] at h
  rw [hnd] at h
  simp only at h
  ·split at h
   ·exact h.elim
   ·rename_i ts hts
    have hr : rnd = none := hrf.resolve_right fun e => by rw [e] at hts; simp [lookN] at hts
    subst hr
    rw [hts] at hc
    simp only [Bool.and_eq_true] at hc
    obtain ⟨f, hf, h⟩ := optK_ok h
    intro φ a w b' k cs hcf hb hk hrd
    have hfr := hcf.s.fr
    have h := h _ _ ⟨rfl, rfl, hfr⟩ (fun pd st => .loop st pd fn cf.t cf.n ps.toList assign body cf.s.nx) _ _ ⟨rfl, rfl, new_fr hfr⟩ (allTs_of fun xs s R hl hw => by
     split at hw
     ·exact hw.elim
     ·rename_i t' ht'
      refine .of hl ht' ((wpC_ok hmix (fn := fn) assign (C := C.norf) hD hX hnd (.inr rfl) b _ _ _ hc.1 hw).mono fun e cf1 ⟨h1, _, _⟩ => ?_)
      cases e with
      | exit i => exact h1.elim
      | ret => exact h1.elim
      | normal =>
       obtain ⟨g1, g2⟩ := h1
       refine ⟨rfl, _, _, _, _, _, _, _, _, g1, (wpC_ok hmix (fn := fn) body (C := C.norf) hD hX hnd (.inr rfl) b _ _ _ hc.2 g2).mono fun e cf2 ⟨k1, _, _⟩ => ?_⟩
       unfold rndQ at k1
       split at k1
       ·exact k1.elim
       ·rename_i hds
        refine ⟨hds, ?_⟩
        cases e with
        | normal =>
         have k0 := k1.1
         unfold objAt at k0
         exact ⟨_, by simp only [endRound, k0]; rfl, k1.2⟩
        | exit i =>
         have k0 := k1.1
         unfold objAt at k0
         exact ⟨_, by simp only [endRound, k0]; rfl, k1.2⟩
        | ret =>
         have k0 := k1.1
         unfold objAt at k0
         exact ⟨_, by simp only [endRound, k0]; rfl, k1.2⟩)
    unfold itK at h
    split at h
    ·rename_i q first caps
     split at h
     ·rename_i fi hfi
      refine RunA.rangeFunc hD hf hfi (fun _ => h.mono fun v s3 h3 => ?_) φ a w b' k cs hcf hb hk hrd
      obtain ⟨e, st, q1, q2, q3⟩ := rfE_ok h3
      exact ⟨e, st, q1, q2, q3, .refl _ _, rfl⟩
     ·exact h.elim
    ·exact h.elim
theorem ldK_okA {s : St} {t : TypeId} {p : AV} {K : AV → Prop} (h : ldK D s t p K) : ∃ v, loadA D s t p = some v ∧ K v := by
 have key : ∀ v, loadX D s t p = some v → (∀ x, ld1 s p = some x ∨ (∃ m l, ldN s p m = some l) → True) → (rowAt s.h p = none) → loadA D s t p = some v := by
  intro v hv _ hr
  unfold loadX at hv
  rw [hr] at hv
  exact hv
 have h1r : ∀ v, ld1 s p = some v → rowAt s.h p = none := by
  intro v hv
  unfold ld1 at hv
  split at hv
  ·split at hv
   ·rename_i hb; simp [rowAt, hb]
   ·simp at hv
  ·simp at hv
 have hNr : ∀ m l, ldN s p m = some l → rowAt s.h p = none := by
  intro m l hv
  unfold ldN at hv
  split at hv
  ·split at hv
   ·rename_i hb; simp [rowAt, hb]
   ·simp at hv
  ·simp at hv
 unfold ldK at h
 split at h
 ·exact h.elim
 ·rename_i i hi
  split at h
  ·rename_i ha
   have : ∃ cs, ldN s p i.size = some cs ∧ K (.agg cs) := by
    split at h
    ·exact exC_ok h
    ·exact h
   obtain ⟨cs, h1, h2⟩ := this
   exact ⟨_, key _ (ldN_ok h1 hi ha) (fun _ _ => trivial) (hNr _ _ h1), h2⟩
  ·rename_i ha
   obtain ⟨cs, h⟩ := exC_ok h
   split at h
   ·exact ⟨_, key _ (ld1_ok h.1 hi ha) (fun _ _ => trivial) (h1r _ h.1), h.2⟩
   ·exact h.elim
def resK (D : Tab) (T : PT AV) (s : St) : List ResultVar → (List AV → Prop) → Prop
 | [], K => K []
 | .tmp t :: r, K => optK (T.get t) fun v => resK D T s r fun l => K (v :: l)
 | .cell a t :: r, K => optK (T.get a) fun p => ldK D s t p fun v => resK D T s r fun l => K (v :: l)
theorem resK_ok {T : PT AV} {s : St} : ∀ {rs : List ResultVar} {K : List AV → Prop}, resK D T s rs K → ∃ vs, resA D T s rs = some vs ∧ K vs
 | [], K, h => ⟨[], rfl, h⟩
 | .tmp t :: r, K, h => by
  obtain ⟨v, h1, h⟩ := optK_ok h
  obtain ⟨vs, h2, h⟩ := resK_ok h
  exact ⟨v :: vs, by simp [resA, h1, h2], h⟩
 | .cell a t :: r, K, h => by
  obtain ⟨p, h1, h⟩ := optK_ok h
  obtain ⟨v, h2, h⟩ := ldK_okA h
  obtain ⟨vs, h3, h⟩ := resK_ok h
  exact ⟨v :: vs, by simp [resA, h1, h2, h3], h⟩
def endW (C : Cx) (rs : List ResultVar) (Q : AV → St → Prop) (e : Ex) (cf : Cf) : Prop :=
 match e with
 | .exit _ => False
 | _ => match cf.ds with | [] => resK C.D cf.t cf.s rs fun vs => Q (oneOf vs) cf.s | _ :: _ => ∃ s', endDs cf.s cf.ds = some s' ∧ resK C.D cf.t s' rs fun vs => Q (oneOf vs) s'
def fnW (P : Program) (C : Cx) (g : FuncId) (args : List AV) (s : St) (Q : AV → St → Prop) : Prop :=
 match C.D.fn.get g with
 | some fi => wpC P C 1000000 fi.body ⟨PT.setAll .nil 0 args, max args.length fi.nt, s, []⟩ (endW C fi.results Q)
 | none => False
def codeOk (C : Cx) (g : FuncId) : Bool :=
 match C.D.fn.get g with
 | some fi => codeIn C (fun _ => true) 1000000 fi.body
 | none => false
theorem fnW_ok {C : Cx} (hD : TabOk P C.D) (hX : C.D.xst = []) (hnd : C.det = false) (hmix : P.follows .mixedOrders = true) {g : FuncId} {args : List AV} {s : St} {Q : AV → St → Prop} (hc : codeOk C g = true) (h : fnW P C g args s Q) : CallsA P g args s Q := by
 unfold fnW at h
 unfold codeOk at hc
 split at h
 ·rename_i fi hfi
  rw [hfi] at hc
  refine .of_run hD hfi ((wpC_ok hmix _ hD hX hnd (.inl rfl) _ _ _ _ hc h).mono fun e cf ⟨h1, _, _⟩ => ?_)
  cases e with
  | exit i => exact h1.elim
  | _ =>
   simp only [endW] at h1
   simp only [endK]
   split at h1
   ·rename_i hds
    obtain ⟨vs, h2, h3⟩ := resK_ok h1
    simp only [endFn, hds, endDs, h2]
    exact h3
   ·obtain ⟨s', g1, h1⟩ := h1
    obtain ⟨vs, h2, h3⟩ := resK_ok h1
    simp only [endFn, g1, h2]
    exact h3
 ·exact h.elim
theorem fnB_ok {C : Cx} (hD : TabOk P C.D) (hX : C.D.xst = []) (hmix : P.follows .mixedOrders = true) {g : FuncId} {fi : FnI} (hfi : C.D.fn.get g = some fi) {args : List AV} {s : St} {Q : AV → St → Prop} (hc : codeIn C (fun _ => true) 1000000 fi.body = true)
  (h : wpC P C 1000000 fi.body ⟨PT.setAll .nil 0 args, max args.length fi.nt, s, []⟩ (endW C fi.results Q)) (hnd : C.det = false := by rfl) : CallsA P g args s Q :=
 fnW_ok hD hX hnd hmix (by unfold codeOk; rw [hfi]; exact hc) (by unfold fnW; rw [hfi]; exact h)
end
end Go.Eng

namespace Go.Eng
noncomputable section
variable {P : Program} {D : Tab}
def Rd (s : St) (b o : Nat) (cs : List AV) : Prop := ∃ c n tl, s.h.get b = some (.cells c n tl) ∧ o + cs.length ≤ n ∧ c.getAll o cs.length = some cs
def Own (s : St) (b : Nat) (cs : List AV) : Prop := ∃ c, s.h.get b = some (.cells c cs.length none) ∧ c.getAll 0 cs.length = some cs
def Frw (M : List Nat) (s s' : St) : Prop := (∀ c o, c ∉ M → s.h.get c = some o → s'.h.get c = some o) ∧ s.nx ≤ s'.nx ∧ s'.fs = s.fs
theorem Frw.refl (M : List Nat) (s : St) : Frw M s s := ⟨fun _ _ _ h => h, Nat.le_refl _, rfl⟩
theorem Frw.trans {M : List Nat} {s s1 s2 : St} (h : Frw M s s1) (h' : Frw M s1 s2) : Frw M s s2 := ⟨fun c o hc ho => h'.1 c o hc (h.1 c o hc ho), Nat.le_trans h.2.1 h'.2.1, h'.2.2.trans h.2.2⟩
theorem Frw.mono {M M' : List Nat} {s s1 : St} (h : Frw M s s1) (hm : ∀ x, x ∈ M → x ∈ M') : Frw M' s s1 := ⟨fun c o hc ho => h.1 c o (fun x => hc (hm c x)) ho, h.2⟩
theorem getAll_of {c : PT AV} : ∀ {m : Nat} {o : Nat} {cs : List AV}, cs.length = m → (∀ i, i < m → c.get (o + i) = cs[i]?) → c.getAll o m = some cs
 | 0, o, cs, hl, _ => by
  cases cs with
  | nil => rfl
  | cons => simp at hl
 | m + 1, o, cs, hl, h => by
  cases cs with
  | nil => simp at hl
  | cons x r =>
   have h0 := h 0 (by omega)
   simp at h0
   have hr := getAll_of (c := c) (m := m) (o := o + 1) (cs := r) (by simpa using hl) (fun i hi => by
    have := h (i + 1) (by omega)
    rw [show o + 1 + i = o + (i + 1) by omega, this]; simp)
   simp only [PT.getAll, h0, hr]
theorem getAll_part {c : PT AV} {o n : Nat} {cs : List AV} (h : c.getAll o n = some cs) (i m : Nat) (hm : i + m ≤ n) : c.getAll (o + i) m = some ((cs.drop i).take m) := by
 obtain ⟨hl, hg⟩ := PT.getAll_spec n c o cs h
 refine getAll_of (by simp; omega) fun j hj => ?_
 rw [show o + i + j = o + (i + j) by omega, hg (i + j) (by omega)]
 simp [hj]
theorem Rd.ldN {s : St} {b o : Nat} {cs : List AV} (h : Rd s b o cs) (i m : Nat) (hm : i + m ≤ cs.length) : ldN s (.ptr b (o + i)) m = some ((cs.drop i).take m) := by
 obtain ⟨c, n, tl, h1, h2, h3⟩ := h
 have : Nat.ble (o + i + m) n = true := by rw [Nat.ble_eq]; omega
 simp only [Eng.ldN, h1, this, if_true]
 exact getAll_part h3 i m hm
theorem Rd.ld1 {s : St} {b o : Nat} {cs : List AV} (h : Rd s b o cs) (i : Nat) {v : AV} (hv : cs[i]? = some v) : ld1 s (.ptr b (o + i)) = some v := by
 obtain ⟨c, n, tl, h1, h2, h3⟩ := h
 have hi : i < cs.length := (List.getElem?_eq_some_iff.1 hv).1
 have : Nat.blt (o + i) n = true := by rw [Nat.blt_eq]; omega
 simp only [Eng.ld1, h1, this, if_true]
 obtain ⟨hl, hg⟩ := PT.getAll_spec _ c o cs h3
 rw [hg i hi, hv]
theorem Rd.fwd {M : List Nat} {s s' : St} {b o : Nat} {cs : List AV} (h : Rd s b o cs) (hf : Frw M s s') (hb : b ∉ M) : Rd s' b o cs := by
 obtain ⟨c, n, tl, h1, h2, h3⟩ := h
 exact ⟨c, n, tl, hf.1 b _ hb h1, h2, h3⟩
theorem Rd.there {s : St} {b o : Nat} {cs : List AV} (h : Rd s b o cs) : s.h.get b ≠ none := by
 obtain ⟨c, n, tl, h1, _⟩ := h
 rw [h1]; simp
theorem Own.rd {s : St} {b : Nat} {cs : List AV} (h : Own s b cs) : Rd s b 0 cs := by
 obtain ⟨c, h1, h2⟩ := h
 exact ⟨c, _, _, h1, by omega, h2⟩
theorem Own.fwd {M : List Nat} {s s' : St} {b : Nat} {cs : List AV} (h : Own s b cs) (hf : Frw M s s') (hb : b ∉ M) : Own s' b cs := by
 obtain ⟨c, h1, h2⟩ := h
 exact ⟨c, hf.1 b _ hb h1, h2⟩
theorem Own.there {s : St} {b : Nat} {cs : List AV} (h : Own s b cs) : s.h.get b ≠ none := h.rd.there
theorem Own.ldN {s : St} {b : Nat} {cs : List AV} (h : Own s b cs) (i m : Nat) (hm : i + m ≤ cs.length) : Eng.ldN s (.ptr b i) m = some ((cs.drop i).take m) := by
 have := h.rd.ldN i m hm
 rwa [Nat.zero_add] at this
theorem Own.ld1 {s : St} {b : Nat} {cs : List AV} (h : Own s b cs) (i : Nat) {v : AV} (hv : cs[i]? = Option.some v) : Eng.ld1 s (.ptr b i) = Option.some v := by
 have := h.rd.ld1 i hv
 rwa [Nat.zero_add] at this
def splice (cs : List AV) (o : Nat) (vs : List AV) : List AV := cs.take o ++ vs ++ cs.drop (o + vs.length)
theorem Own.wrN {s : St} {b : Nat} {cs : List AV} (h : Own s b cs) (o : Nat) (vs : List AV) (hv : ones vs = true) (ho : o + vs.length ≤ cs.length) :
  ∃ s', Eng.wrN s (.ptr b o) vs = Option.some s' ∧ Own s' b (splice cs o vs) ∧ Frw [b] s s' ∧ s'.nx = s.nx ∧ s'.nc = s.nc ∧ (∀ c, c ≠ b → s'.h.get c = s.h.get c) := by
 obtain ⟨c, h1, h2⟩ := h
 have hb : Nat.ble (o + vs.length) cs.length = true := by rw [Nat.ble_eq]; exact ho
 have hl : (splice cs o vs).length = cs.length := by simp [splice]; omega
 refine ⟨{ s with h := s.h.set b (.cells (c.setAll o vs) cs.length none) }, ?_, ⟨c.setAll o vs, by simp [hl], ?_⟩, ⟨fun d x hd hx => ?_, Nat.le_refl _, rfl⟩, rfl, rfl, fun d hd => by simp [PT.get_set, hd]⟩
 ·simp only [Eng.wrN, writeAll, h1, hv, hb, wr, Bool.and_self, if_true]
 ·refine getAll_of rfl fun i hi => ?_
  rw [hl] at hi
  obtain ⟨_, hg⟩ := PT.getAll_spec _ c 0 cs h2
  have hg' := hg i hi
  rw [Nat.zero_add] at hg' ⊢
  rw [PT.get_setAll]
  by_cases hin : o ≤ i ∧ i < o + vs.length
  ·rw [if_pos hin]
   simp only [splice]
   rw [List.append_assoc, List.getElem?_append_right (by simp; omega), List.getElem?_append_left (by simp; omega)]
   congr 1
   simp; omega
  ·rw [if_neg hin, hg']
   simp only [splice]
   by_cases hlo : i < o
   ·rw [List.append_assoc, List.getElem?_append_left (by simp; omega), List.getElem?_take_of_lt hlo]
   ·rw [List.getElem?_append_right (by simp; omega)]
    simp only [List.length_append, List.length_take, List.getElem?_drop]
    congr 1
    omega
 ·have : d ≠ b := by simpa using hd
  simp [PT.get_set, this, hx]
theorem NewO.fwd {s s' : St} {ob : AObj} {b : Nat} (h : NewO s ob b s') : Frw [] s s' := by
 obtain ⟨rfl, rfl, hf⟩ := h
 refine ⟨fun c o _ ho => ?_, by simp [St.new], rfl⟩
 have : c ≠ s.nx := by rintro rfl; rw [hf _ (Nat.le_refl _)] at ho; simp at ho
 simp [St.new, PT.get_set, this, ho]
theorem NewO.gone {s s' : St} {ob : AObj} {b : Nat} (h : NewO s ob b s') : s.h.get b = none := by
 obtain ⟨rfl, rfl, hf⟩ := h
 exact hf _ (Nat.le_refl _)
theorem NewO.get {s s' : St} {ob : AObj} {b : Nat} (h : NewO s ob b s') : s'.h.get b = some ob := by
 obtain ⟨rfl, rfl, hf⟩ := h
 simp [St.new]
theorem NewO.own {s s' : St} {cs : List AV} {b : Nat} (h : NewO s (cellsO cs) b s') : Own s' b cs := by
 refine ⟨_, h.get, getAll_of rfl fun i hi => ?_⟩
 rw [PT.get_setAll, if_pos (by omega)]
 simp
theorem NewO.fr {s s' : St} {ob : AObj} {b : Nat} (h : NewO s ob b s') : Fr s' := by
 obtain ⟨rfl, rfl, hf⟩ := h
 intro c hc
 simp [St.new] at hc
 have : c ≠ s.nx := by omega
 simp [St.new, PT.get_set, this]
 exact hf c (by omega)
theorem NewO.ne {s s' : St} {ob : AObj} {b c : Nat} (h : NewO s ob b s') (hc : s.h.get c ≠ none) : c ≠ b := by
 rintro rfl
 exact hc h.gone
theorem Bump.fwd {s s' : St} {n : Nat} (h : Bump s n s') : Frw [] s s' := by
 obtain ⟨rfl, hf⟩ := h
 exact ⟨fun c o _ ho => ho, by simp, rfl⟩
def slZero (x : AV) : Bool :=
 match x with
 | .nilslice => true
 | .slice0 _ => true
 | _ => false
theorem slZero_len {x : AV} (h : slZero x = true) : slLen x = some 0 := by
 cases x <;> simp [slZero] at h <;> rfl
def SlR (s : St) (x : AV) (z : Nat) (cs : List AV) : Prop :=
 (slZero x = true ∧ cs = []) ∨ ∃ b o n cap, x = .slice b o n cap ∧ cs.length = n * z ∧ Rd s b o cs
theorem SlR.len {s : St} {x : AV} {z : Nat} {cs : List AV} (h : SlR s x z cs) : ∃ n, slLen x = some n ∧ cs.length = n * z := by
 rcases h with ⟨h1, rfl⟩ | ⟨b, o, n, cap, rfl, h2, _⟩
 ·exact ⟨0, slZero_len h1, by simp⟩
 ·exact ⟨n, rfl, h2⟩
theorem SlR.at {s : St} {x : AV} {z : Nat} {cs : List AV} (h : SlR s x z cs) {n : Nat} (hn : slLen x = some n) {i : Int} (h0 : 0 ≤ i) (h1 : i < (n : Int)) : ∃ b o cap, x = .slice b o n cap ∧ Rd s b (o + i.toNat * z) ((cs.drop (i.toNat * z)).take z) := by
 rcases h with ⟨h2, rfl⟩ | ⟨b, o, m, cap, rfl, h2, h3⟩
 ·have h2 := slZero_len h2
  rw [hn] at h2; simp at h2; omega
 ·have : m = n := by simpa [slLen] using hn
  subst this
  have hz : i.toNat * z + z ≤ m * z := by
   have : i.toNat + 1 ≤ m := by omega
   have := Nat.mul_le_mul_right z this
   rwa [Nat.add_mul, Nat.one_mul] at this
  refine ⟨b, o, cap, rfl, ?_⟩
  obtain ⟨c, k, tl, g1, g2, g3⟩ := h3
  have hl : ((cs.drop (i.toNat * z)).take z).length = z := by simp; omega
  refine ⟨c, k, tl, g1, by rw [hl]; omega, ?_⟩
  rw [hl]
  exact getAll_part g3 _ _ (by omega)
theorem SlR.fwd {M : List Nat} {s s' : St} {x : AV} {z : Nat} {cs : List AV} (h : SlR s x z cs) (hf : Frw M s s') (hM : ∀ m, m ∈ M → s.h.get m = none ∨ ∀ b o n cap, x = .slice b o n cap → b ≠ m) : SlR s' x z cs := by
 rcases h with h | ⟨b, o, n, cap, rfl, h2, h3⟩
 ·exact .inl h
 ·refine .inr ⟨b, o, n, cap, rfl, h2, h3.fwd hf fun hb => ?_⟩
  rcases hM b hb with h | h
  ·exact h3.there h
  ·exact h b o n cap rfl rfl
theorem SlR.ext {s s' : St} {x : AV} {z : Nat} {cs : List AV} (h : SlR s x z cs) (hf : Frw [] s s') : SlR s' x z cs := h.fwd hf (by simp)
def SlO (s : St) (x : AV) (z : Nat) (cs : List AV) : Prop :=
 (x = .nilslice ∧ cs = []) ∨ ∃ b k n c, x = .slice b 0 n (.var k 0) ∧ cs.length = n * z ∧ s.h.get b = some (.cells c (n * z) (some (k, z))) ∧ c.getAll 0 (n * z) = some cs
theorem SlO.r {s : St} {x : AV} {z : Nat} {cs : List AV} (h : SlO s x z cs) : SlR s x z cs := by
 rcases h with ⟨rfl, rfl⟩ | ⟨b, k, n, c, rfl, h1, h2, h3⟩
 ·exact .inl ⟨rfl, rfl⟩
 ·exact .inr ⟨b, 0, n, _, rfl, h1, c, _, _, h2, by omega, by rw [h1]; exact h3⟩
def blkOf (x : AV) : List Nat :=
 match x with
 | .slice b _ _ _ => [b]
 | _ => []
theorem SlO.append' {s : St} {x : AV} {z : Nat} {cs e : List AV} {t et : TypeId} {ti ei : TyI} {m : Nat} {zv : AV} (h : SlO s x z cs) (hz : 0 < z) (hti : D.ty.get t = some ti) (hd : ti.d = .slice et) (hei : D.ty.get et = some ei) (hsz : ei.size = z) (hzv : ei.zero = some zv) (hzl : zv.cells.length = z)
  (he : e.length = z) (h1 : ones e = true) (hR : Rd s m 0 e) (hb : ∀ n, cs.length = n * z → (n + 1 + (n + 1) / 4 + 600) * ei.bytes ≤ pow48 ∧ n + 1 ≤ pow48) (hfr : Fr s) :
  ∃ v s', appendX D s t t x (.slice m 0 1 (.exact 1)) = some (v, s') ∧ SlO s' v z (cs ++ e) ∧ Frw (blkOf x) s s' ∧ blkOf v = [s.nx] ∧ Fr s' ∧ s'.nx = s.nx + 1 := by
 obtain ⟨c0, n0, tl0, r1, r2, r3⟩ := hR
 have hnew : sliceCells s.h ei.size (.slice m 0 1 (.exact 1)) = some e := by
  have : Nat.ble (0 + 1 * ei.size) n0 = true := by rw [Nat.ble_eq]; omega
  simp only [sliceCells, r1, this, if_true]
  rw [hsz, Nat.one_mul, ← he]; exact r3
 have fin : ∀ (old : List AV) (n : Nat) (h0 : PT AObj), cs.length = n * z → old = cs → (∀ c o, c ∉ blkOf x → s.h.get c = some o → h0.get c = some o) → (∀ c, s.nx ≤ c → h0.get c = none) →
   SlO (growA s h0 ei.size (n + 1) (old ++ e)).2 (growA s h0 ei.size (n + 1) (old ++ e)).1 z (cs ++ e) ∧ Frw (blkOf x) s (growA s h0 ei.size (n + 1) (old ++ e)).2 ∧ blkOf (growA s h0 ei.size (n + 1) (old ++ e)).1 = [s.nx] ∧ Fr (growA s h0 ei.size (n + 1) (old ++ e)).2 ∧ (growA s h0 ei.size (n + 1) (old ++ e)).2.nx = s.nx + 1 := by
  intro old n h0 hn hold hk hf0
  subst hold
  have hmul : (n + 1) * z = n * z + z := by rw [Nat.add_mul, Nat.one_mul]
  refine ⟨.inr ⟨s.nx, s.nc, n + 1, PT.setAll .nil 0 (old ++ e), rfl, by simp; omega, by simp [growA, hsz], ?_⟩, ⟨fun c o hc ho => ?_, by simp [growA], rfl⟩, rfl, fun c hc => ?_, rfl⟩
  ·refine getAll_of (by simp; omega) fun i hi => ?_
   rw [PT.get_setAll, if_pos (by simp; omega)]
   simp
  ·have : c ≠ s.nx := by rintro rfl; rw [hfr _ (Nat.le_refl _)] at ho; simp at ho
   simp [growA, PT.get_set, this]
   exact hk c o hc ho
  ·simp [growA] at hc
   have : c ≠ s.nx := by omega
   simp [growA, PT.get_set, this]
   exact hf0 c (by omega)
 have hm1 : avLen (.slice m 0 1 (.exact 1)) = some 1 := rfl
 rcases h with ⟨rfl, rfl⟩ | ⟨b, k, n, c, rfl, g1, g2, g3⟩
 ·obtain ⟨hb1, _⟩ := hb 0 (by simp)
  have q1 : Nat.ble ((0 + (0 + 1) + (0 + (0 + 1)) / 4 + 600) * ei.bytes) pow48 = true := by rw [Nat.ble_eq]; exact hb1
  refine ⟨_, _, ?_, fin [] 0 s.h (by simp) rfl (fun c o _ ho => ho) hfr⟩
  rw [show appendX D s t t .nilslice (.slice m 0 1 (.exact 1)) = appendA D s t t .nilslice (.slice m 0 1 (.exact 1)) from rfl]
  have e1 : avLen .nilslice = some 0 := rfl
  have e2 : sliceCells s.h ei.size .nilslice = some [] := rfl
  have hzb : Nat.beq zv.cells.length ei.size = true := by rw [hzl, hsz, Nat.beq_refl]
  simp only [appendA, hti, hd, hei, hzv, isSeq, hzb, Bool.and_self, if_true, appendB, e1, e2, hm1, hnew]
  rw [if_pos (by rw [q1]; rfl)]
  rfl
 ·have hn : n ≤ cs.length := by rw [g1]; exact Nat.le_mul_of_pos_right n hz
  obtain ⟨hb1, hb2⟩ := hb n g1
  have q1 : Nat.ble ((n + (0 + 1) + (n + (0 + 1)) / 4 + 600) * ei.bytes) pow48 = true := by rw [Nat.ble_eq]; exact hb1
  have q2 : Nat.ble (n + (0 + 1)) pow48 = true := by rw [Nat.ble_eq]; exact hb2
  have hzb : Nat.beq zv.cells.length ei.size = true := by rw [hzl, hsz, Nat.beq_refl]
  have e1 : avLen (.slice b 0 n (.var k 0)) = some n := rfl
  have e2 : sliceCells s.h ei.size (.slice b 0 n (.var k 0)) = some cs := by
   have : Nat.ble (0 + n * ei.size) (n * z) = true := by rw [Nat.ble_eq, hsz]; omega
   simp only [sliceCells, g2, this, if_true]
   rw [hsz]; exact g3
  refine ⟨_, _, ?_, fin cs n (s.h.del b) g1 rfl (fun c o hc ho => ?_) (fun c hc => ?_)⟩
  ·rw [show appendX D s t t (.slice b 0 n (.var k 0)) (.slice m 0 1 (.exact 1)) = appendA D s t t (.slice b 0 n (.var k 0)) (.slice m 0 1 (.exact 1)) from rfl]
   simp only [appendA, hti, hd, hei, hzv, isSeq, hzb, Bool.and_self, if_true, appendB, e1, e2, hm1, hnew, q1, q2, appendC, g2]
   rw [if_pos (by simp [hsz, h1, Nat.blt_eq, hz])]
  ·have : c ≠ b := by simpa [blkOf] using hc
   rw [PT.get_del, if_neg this]; exact ho
  ·rw [PT.get_del]
   split
   ·rfl
   ·exact hfr c hc
end
end Go.Eng

namespace Go.Eng
noncomputable section
variable {P : Program} {D : Tab}
def groundL (f : AV → Bool) : List AV → Bool
 | [] => true
 | a :: r => f a && groundL f r
def ground1 (v : AV) : Bool :=
 match v with
 | .bool _ => true
 | .int _ _ => true
 | .str _ => true
 | .nilptr => true
 | .nilslice => true
 | .nilmap => true
 | .nilFunc => true
 | .nilIface => true
 | _ => false
def ground2 (v : AV) : Bool :=
 match v with
 | .agg l => groundL ground1 l
 | v => ground1 v
def ground (v : AV) : Bool :=
 match v with
 | .tuple l => groundL ground2 l
 | v => ground2 v
theorem VR.ground1 {p q : Phi} {v : AV} {u : Value} (h : Eng.ground1 v = true) (hv : VR p v u) : VR q v u := by
 cases hv <;> first | (simp [Eng.ground1] at h; done) | (constructor; done)
theorem VRs.groundL {p q : Phi} {f : AV → Bool} (hf : ∀ v u, f v = true → VR p v u → VR q v u) : ∀ {l : List AV} {us : List Value}, groundL f l = true → VRs p l us → VRs q l us
 | [], _, _, .nil => .nil
 | a :: r, _, h, .cons hv hs => by
  simp only [Eng.groundL, Bool.and_eq_true] at h
  exact .cons (hf _ _ h.1 hv) (VRs.groundL hf h.2 hs)
theorem VR.ground2 {p q : Phi} {v : AV} {u : Value} (h : Eng.ground2 v = true) (hv : VR p v u) : VR q v u := by
 cases v with
 | agg l =>
  cases hv with
  | agg hs => exact .agg (VRs.groundL (fun v u => VR.ground1) h hs)
 | _ => exact VR.ground1 h hv
theorem VR.ground {p q : Phi} {v : AV} {u : Value} (h : Eng.ground v = true) (hv : VR p v u) : VR q v u := by
 cases v with
 | tuple l =>
  cases hv with
  | tuple hs => exact .tuple (VRs.groundL (fun v u => VR.ground2) h hs)
 | _ => exact VR.ground2 h hv
theorem CallsA.pure {g : FuncId} {args : List AV} {Q : AV → Prop} (h : ∀ s, CallsA P g args s fun v _ => Q v) (hq : ∀ v, Q v → ground v = true) (s : St) : CallsA P g args s fun v s' => Q v ∧ s' = s := by
 intro φ vals w cs hr hv
 have hr0 : Rel φ { s with h := .nil } w := (hr.less (h' := .nil) (fun b o hb => by simp at hb)).1
 obtain ⟨v, s', q, φ', u, w', fr, q1, q2, q3, q4, q5, q6⟩ := h { s with h := .nil } φ vals w cs hr0 hv
 have hkeep : ∀ r, r < w.heap.size → w'.heap[r]? = w.heap[r]? := fun r hlt => q1.keep r hlt fun b sh hb => by simp [ownB] at hb
 refine ⟨v, s, ⟨q, rfl⟩, φ, u, w', fr, ⟨Phi.le.rfl' φ, fun b r sh hb hr => .inr ⟨b, sh, hb, hr⟩, fun b r sh hb hr => .inr ⟨b, sh, hb, hr⟩, fun r hlt _ => hkeep r hlt, q1.size, q1.os, q1.out, q1.tape, Nat.le_refl _, Nat.le_refl _, fun _ _ => rfl, fun r arr e fz hx => ?_, q1.dr⟩, ?_, q3.ground (hq v q), q4, q5, q6⟩
 ·have := (Array.getElem?_eq_some_iff.1 hx).1
  exact ⟨arr, fz, by rw [hkeep r this]; exact hx, rfl⟩
 ·refine ⟨fun b o hb => ?_, hr.inj, hr.fresh, hr.freshc, hr.glob, hr.gnx, hr.facts⟩
  rcases hr.obj b o hb with hv | ⟨r, sh, ro, h1, h2, h3⟩
  ·exact .inl hv
  ·have := (Array.getElem?_eq_some_iff.1 h2).1
   exact .inr ⟨r, sh, ro, h1, by rw [hkeep r this]; exact h2, h3⟩
end
end Go.Eng

namespace Go.Eng
noncomputable section
variable {P : Program} {D : Tab}
theorem seqD_ok {C : Cx} (hD : TabOk P C.D) (hX : C.D.xst = []) (hdet : C.det = true) {ops : Array Oper} {asg : Nat → Bool} : ∀ (l : List Oper) (i : Nat) (cf : Cf) (K : PT AV → St → Prop), ops.toList.drop i = l → (∀ o, o ∈ l → dstIn asg o = true) → seqK P C ops l cf.t cf.n cf.s K → Fr cf.s →
  ∃ cf', (K cf'.t cf'.s ∧ Pres asg cf.t cf'.t ∧ cf'.n = cf.n ∧ cf'.ds = cf.ds) ∧ Gro cf.s cf'.s ∧ RegA P ops i l cf fun cf'' => cf'' = cf'
 | [], i, cf, K, _, _, h, hf => ⟨cf, ⟨h, .refl _ _, rfl, rfl⟩, .refl hf, .nil rfl⟩
 | o :: r, i, cf, K, hl, hd, h, hf => by
  have ho : ops[i]? = some o := by
   have h1 : (ops.toList.drop i)[0]? = some o := by rw [hl]; rfl
   simpa using h1
  have hr : ops.toList.drop (i + 1) = r := by
   have : ops.toList.drop (i + 1) = (ops.toList.drop i).drop 1 := by simp
   rw [this, hl]; rfl
  have hdo := hd o (List.mem_cons_self ..)
  have hdr := fun x hx => hd x (List.mem_cons_of_mem _ hx)
  simp only [seqK] at h
  obtain ⟨g, hg, h⟩ := guardK_ok h
  cases g with
  | false =>
   obtain ⟨cf', ⟨q1, q2, q3, q4⟩, q5, q6⟩ := seqD_ok hD hX hdet r (i + 1) { cf with t := putA cf.t cf.n o.dst .undef } K hr hdr h hf
   exact ⟨cf', ⟨q1, (Pres.put hdo).trans q2, q3, q4⟩, q5, .skip ho hg q6⟩
  | true =>
   obtain ⟨v, s', hk, g1, g2⟩ := opK_one hD hX hdet h hf
   obtain ⟨cf', ⟨q1, q2, q3, q4⟩, q5, q6⟩ := seqD_ok hD hX hdet r (i + 1) { cf with t := putA cf.t cf.n o.dst v, s := s' } K hr hdr hk g1.1
   exact ⟨cf', ⟨q1, (Pres.put hdo).trans q2, q3, q4⟩, g1.trans q5, .cons ho hg ((g2 o rfl).mono fun v' s'' ⟨e1, e2⟩ => by subst e1; subst e2; exact q6)⟩
section
variable {rnd : Option Nat} {fn : FuncId} {cf : Cf} {Q : Ex → Cf → Prop}
theorem RunD.seq {x y : Code} (h : RunD P rnd fn x cf (thenK (fun cf' => RunD P rnd fn y cf' Q) Q)) : RunD P rnd fn (.seq x y) cf Q := by
 intro hf
 obtain ⟨e1, c1, m1, g1, r1⟩ := h hf
 cases e1 with
 | normal =>
  obtain ⟨e2, c2, m2, g2, r2⟩ := m1 g1.1
  exact ⟨e2, c2, m2, g1.trans g2, .seq (r1.mono fun e c ⟨he, hc⟩ => by subst he; subst hc; exact r2)⟩
 | exit i => exact ⟨_, c1, m1, g1, .seq (r1.mono fun e c ⟨he, hc⟩ => by subst he; subst hc; exact ⟨rfl, rfl⟩)⟩
 | ret => exact ⟨_, c1, m1, g1, .seq (r1.mono fun e c ⟨he, hc⟩ => by subst he; subst hc; exact ⟨rfl, rfl⟩)⟩
theorem RunD.block {id : Nat} {x : Code} (h : RunD P rnd fn x cf (blockK id Q)) : RunD P rnd fn (.block id x) cf Q := by
 intro hf
 obtain ⟨e1, c1, m1, g1, r1⟩ := h hf
 cases e1 with
 | normal => exact ⟨.normal, c1, m1, g1, .block (r1.mono fun e c ⟨he, hc⟩ => by subst he; subst hc; exact ⟨rfl, rfl⟩)⟩
 | ret => exact ⟨.ret, c1, m1, g1, .block (r1.mono fun e c ⟨he, hc⟩ => by subst he; subst hc; exact ⟨rfl, rfl⟩)⟩
 | exit i =>
  simp only [blockK] at m1
  cases hb : Nat.beq i id with
  | true =>
   rw [hb] at m1
   exact ⟨.normal, c1, m1, g1, .block (r1.mono fun e c ⟨he, hc⟩ => by subst he; subst hc; simp only [blockK, hb]; first | exact ⟨trivial, trivial⟩ | exact ⟨rfl, rfl⟩)⟩
  | false =>
   rw [hb] at m1
   exact ⟨.exit i, c1, m1, g1, .block (r1.mono fun e c ⟨he, hc⟩ => by subst he; subst hc; simp only [blockK, hb]; first | exact ⟨trivial, trivial⟩ | exact ⟨rfl, rfl⟩)⟩
def LoopD (P : Program) (rnd : Option Nat) (fn : FuncId) (code : Code) (cf : Cf) (Q : Ex → Cf → Prop) : Prop :=
 Fr cf.s → ∃ e cf', Q e cf' ∧ Gro cf.s cf'.s ∧ LoopA P rnd fn code cf fun e' cf'' => e' = e ∧ cf'' = cf'
theorem LoopD.inv {code : Code} (I : Nat → Cf → Prop) {m : Nat} (h0 : I m cf)
  (hround : ∀ m cf, I m cf → RunD P rnd fn code cf fun e cf' => match e with | .normal => ∃ m' cf'', m' < m ∧ I m' cf'' ∧ (∀ i x, cf''.t.get i = some x → cf'.t.get i = some x) ∧ cf''.n = cf'.n ∧ cf''.ds = cf'.ds ∧ cf''.s = cf'.s | e => Q e cf') : LoopD P rnd fn code cf Q := by
 induction m using Nat.strongRecOn generalizing cf with
 | _ m ih =>
  intro hf
  obtain ⟨e1, c1, m1, g1, r1⟩ := hround m cf h0 hf
  cases e1 with
  | normal =>
   obtain ⟨m', cf'', hlt, hI, e1, e2, e3, e4⟩ := m1
   obtain ⟨e, cf3, q, g3, r3⟩ := ih m' hlt hI (by rw [e4]; exact g1.1)
   refine ⟨e, cf3, q, g1.trans (by rw [← e4]; exact g3), ?_⟩
   intro φ a w b k cs hc hb hk hr
   obtain ⟨e', c', ⟨rfl, rfl⟩, φ1, a1, w1, q1, q2, q3⟩ := r1 φ a w b (.inLoop code :: k) cs hc hb hk hr
   obtain ⟨e2', c2, ⟨rfl, rfl⟩, φ2, a2, w2, p1, p2, p3⟩ := r3 φ1 a1 w1 b k cs (q2.fewer e1 e2 e3 e4) hb hk (hr.mono q1.ext)
   rw [e4] at p1
   exact ⟨_, _, ⟨rfl, rfl⟩, φ2, a2, w2, q1.trans p1, p2, p3.of_steps (Steps.trans q3 (.one stepR_inLoop))⟩
  | exit id =>
   refine ⟨.exit id, c1, m1, g1, ?_⟩
   intro φ a w b k cs hc hb hk hr
   obtain ⟨e', c', ⟨rfl, rfl⟩, φ1, a1, w1, q1, q2, q3⟩ := r1 φ a w b (.inLoop code :: k) cs hc hb hk hr
   exact ⟨_, _, ⟨rfl, rfl⟩, φ1, a1, w1, q1, q2, q3.out (fun _ _ => by simp [exitTo]) (by simp)⟩
  | ret =>
   refine ⟨.ret, c1, m1, g1, ?_⟩
   intro φ a w b k cs hc hb hk hr
   obtain ⟨e', c', ⟨rfl, rfl⟩, φ1, a1, w1, q1, q2, q3⟩ := r1 φ a w b (.inLoop code :: k) cs hc hb hk hr
   exact ⟨_, _, ⟨rfl, rfl⟩, φ1, a1, w1, q1, q2, q3.out (fun _ _ => by simp [exitTo]) (by simp)⟩
theorem RunD.loop {x : Code} (h : LoopD P rnd fn x cf Q) : RunD P rnd fn (.loop x) cf Q :=
 fun hf => let ⟨e, c, q, g, r⟩ := h hf; ⟨e, c, q, g, .loop r⟩
end
theorem RunD.fewer {rnd : Option Nat} {fn : FuncId} {code : Code} {cf cf1 : Cf} {Q : Ex → Cf → Prop} (h : RunD P rnd fn code cf1 Q) (ht : ∀ i y, cf1.t.get i = some y → cf.t.get i = some y) (hn : cf1.n = cf.n) (hds : cf1.ds = cf.ds) (hs : cf1.s = cf.s) : RunD P rnd fn code cf Q := by
 intro hf
 obtain ⟨e, c, q, g, r⟩ := h (by rw [hs]; exact hf)
 exact ⟨e, c, q, by rw [← hs]; exact g, r.fewer ht hn hds hs⟩
theorem RoundD.of {l : Nat} {args : List AV} {s : St} {Q : AV → St → Prop} {st : LoopState} {pd : Option Code} {fn : FuncId} {t t' : PT AV} {n : Nat} {ps : List Tmp} {assign body : Code} {ds : Nat}
  (hl : s.h.get l = some (.loop st pd fn t n ps assign body ds)) (ht' : setPs n t ps args = some t')
  (h : RunD P (some l) fn assign { t := t', n, s, ds := [] } fun e cf => e = .normal ∧ ∃ pd2 fn2 t2 n2 ps2 as2 bd2 ds2, cf.s.h.get l = some (.loop .ready pd2 fn2 t2 n2 ps2 as2 bd2 ds2) ∧
   RunD P (some l) fn body { cf with s := { cf.s with h := cf.s.h.set l (.loop .busy pd2 fn2 t2 n2 ps2 as2 bd2 ds2) } } fun e cf' => cf'.ds = [] ∧ ∃ x, endRound l cf'.s (jmpOf e) = some x ∧ Q x.1 x.2) : RoundD P l args s Q := by
 intro hf
 obtain ⟨e1, c1, ⟨rfl, pd2, fn2, t2, n2, ps2, as2, bd2, ds2, hl2, hb⟩, G1, r1⟩ := h hf
 have G2 : Gro c1.s { c1.s with h := c1.s.h.set l (.loop .busy pd2 fn2 t2 n2 ps2 as2 bd2 ds2) } := Gro.set1 G1.1 hl2
 obtain ⟨e2, c2, ⟨hds, x, hx, hq⟩, G3, r2⟩ := hb G2.1
 have G4 : Gro c2.s x.2 := by
  unfold endRound at hx
  split at hx
  ·rename_i hl3
   simp only [Option.some.injEq] at hx
   subst hx
   exact Gro.set1 G3.1 hl3
  ·simp at hx
 refine ⟨x.1, x.2, hq, ((G1.trans G2).trans G3).trans G4, .of hl ht' (r1.mono fun e cf ⟨he, hcf⟩ => ?_)⟩
 subst he; subst hcf
 refine ⟨rfl, pd2, fn2, t2, n2, ps2, as2, bd2, ds2, hl2, r2.mono fun e' cf' ⟨he', hcf'⟩ => ?_⟩
 subst he'; subst hcf'
 exact ⟨hds, x, hx, rfl, rfl⟩
theorem endDs_gro : ∀ {l : List Nat} {s s' : St}, Fr s → endDs s l = some s' → Gro s s'
 | [], s, s', hf, h => by
  simp only [endDs, Option.some.injEq] at h
  subst h; exact .refl hf
 | d :: r, s, s', hf, h => by
  simp only [endDs] at h
  split at h
  ·rename_i hd
   have G := Gro.set1 (o' := .dfd false) hf hd
   exact G.trans (endDs_gro G.1 h)
  ·simp at h
theorem wpD_ok (hmix : P.follows .mixedOrders = true) {fn : FuncId} : ∀ (x : Code) {C : Cx} (hD : TabOk P C.D) (hX : C.D.xst = []) (hdet : C.det = true) {rnd : Option Nat} (hrf : rnd = none ∨ C.rf = []) (b : Nat) (cf : Cf) (Q : Ex → Cf → Prop) (asg : Nat → Bool), codeIn C asg b x = true → wpC P C b x cf Q → RunD P rnd fn x cf fun e cf' => Q e cf' ∧ Pres asg cf.t cf'.t ∧ cf'.n = cf.n
 | .skip, C, hD, hX, hdet, rnd, hrf, b, cf, Q, asg, _, h => fun hf => ⟨_, cf, ⟨h, .refl _ _, rfl⟩, .refl hf, .skip ⟨rfl, rfl⟩⟩
 | .label _, C, hD, hX, hdet, rnd, hrf, b, cf, Q, asg, _, h => fun hf => ⟨_, cf, ⟨h, .refl _ _, rfl⟩, .refl hf, .label ⟨rfl, rfl⟩⟩
 | .ret, C, hD, hX, hdet, rnd, hrf, b, cf, Q, asg, _, h => fun hf => ⟨_, cf, ⟨h, .refl _ _, rfl⟩, .refl hf, .ret ⟨rfl, rfl⟩⟩
 | .exit _, C, hD, hX, hdet, rnd, hrf, b, cf, Q, asg, _, h => fun hf => ⟨_, cf, ⟨h, .refl _ _, rfl⟩, .refl hf, .exit ⟨rfl, rfl⟩⟩
 | .seq x y, C, hD, hX, hdet, rnd, hrf, b, cf, Q, asg, hc, h => by
  simp only [codeIn, Bool.and_eq_true] at hc
  simp only [wpC] at h
  split at h
  ·refine .seq ((wpD_ok hmix (fn := fn) x hD hX hdet hrf b cf _ asg hc.1.1 h).mono fun e cf1 ⟨h1, h2, h3⟩ => ?_)
   cases e with
   | normal => exact (wpD_ok hmix (fn := fn) y hD hX hdet hrf b cf1 Q asg hc.1.2 h1).mono fun e cf2 ⟨q1, q2, q3⟩ => ⟨q1, h2.trans q2, q3.trans h3⟩
   | exit i => exact ⟨h1, h2, h3⟩
   | ret => exact ⟨h1, h2, h3⟩
  ·rename_i q hq
   rw [hq] at hc
   split at h
   ·exact h.elim
   ·rename_i hin
    simp only [Bool.and_eq_true] at hin
    obtain ⟨J, hx, hall⟩ := h
    refine .seq ((wpD_ok hmix (fn := fn) x hD hX hdet hrf b cf _ _ (codeIn_and hin.1 hc.1.1) hx).mono fun e cf1 ⟨h1, h2, h3⟩ => ?_)
    have gP : Pres asg cf.t cf1.t := fun i hi => h2 i (by simp [hi])
    cases e with
    | exit i => exact ⟨h1, gP, h3⟩
    | ret => exact ⟨h1, gP, h3⟩
    | normal =>
     simp only [joinQ] at h1
     split at h1
     ·rename_i hds
      split at h1
      ·rename_i vs hvs
       split at h1
       ·rename_i fl hfl
        obtain ⟨m, hap⟩ := h1
        obtain ⟨F, k1, k2⟩ := allC_ap hall hap
        refine RunD.fewer ((wpD_ok hmix (rnd := rnd) (fn := fn) y hD hX hdet hrf b _ Q asg hc.1.2 (k1 _ _ k2)).mono fun e cf2 ⟨q1, q2, q3⟩ => ⟨q1, (join_pres hc.2 hin.2).trans q2, q3⟩) (join_fewer (fun i hi => h2 i (by simp [hi])) hvs hfl) h3.symm (eqNs_eq hds).symm rfl
       ·exact h1.elim
      ·exact h1.elim
     ·exact h1.elim
 | .cond c x y, C, hD, hX, hdet, rnd, hrf, b, cf, Q, asg, hc, h => by
  simp only [codeIn, Bool.and_eq_true] at hc
  simp only [wpC] at h
  obtain ⟨v, hv, h⟩ := optK_ok h
  split at h
  ·rename_i y'
   cases y' with
   | true =>
    rw [setLit_eq hv] at h
    intro hf
    obtain ⟨e, c1, q, g, r⟩ := wpD_ok hmix (rnd := rnd) (fn := fn) x hD hX hdet hrf b cf Q asg hc.1 h hf
    exact ⟨e, c1, q, g, .cond hv (fun _ => r) (fun e => by simp at e)⟩
   | false =>
    rw [setLit_eq hv] at h
    intro hf
    obtain ⟨e, c1, q, g, r⟩ := wpD_ok hmix (rnd := rnd) (fn := fn) y hD hX hdet hrf b cf Q asg hc.2 h hf
    exact ⟨e, c1, q, g, .cond hv (fun e => by simp at e) (fun _ => r)⟩
  ·exact h.elim
 | .block id x, C, hD, hX, hdet, rnd, hrf, b, cf, Q, asg, hc, h => by
  simp only [codeIn] at hc
  simp only [wpC] at h
  refine .block ((wpD_ok hmix (fn := fn) x hD hX hdet hrf id cf _ asg hc h).mono fun e cf1 ⟨h1, h2, h3⟩ => ?_)
  cases e with
  | normal => exact ⟨h1, h2, h3⟩
  | ret => exact ⟨h1, h2, h3⟩
  | exit i =>
   simp only [blockK] at h1 ⊢
   cases hb : Nat.beq i id with
   | true => rw [hb] at h1; exact ⟨h1, h2, h3⟩
   | false => rw [hb] at h1; exact ⟨h1, h2, h3⟩
 | .scope x, C, hD, hX, hdet, rnd, hrf, b, cf, Q, asg, hc, h => by
  simp only [codeIn] at hc
  simp only [wpC] at h
  intro hf
  obtain ⟨e, c1, q, g, r⟩ := wpD_ok hmix (rnd := rnd) (fn := fn) x hD hX hdet hrf b cf Q asg hc h hf
  exact ⟨e, c1, q, g, .scope r⟩
 | .loop x, C, hD, hX, hdet, rnd, hrf, b, cf, Q, asg, hc, h => by
  simp only [wpC] at h
  simp only [codeIn] at hc
  split at h
  ·exact h.elim
  ·rename_i q hq
   rw [hq] at hc
   simp only [Bool.and_eq_true, List.all_eq_true] at hc
   split at h
   ·exact h.elim
   ·rename_i hin
    split at h
    ·exact h.elim
    ·rename_i sh0 hsh
     generalize mskOf C b sh0 = sh at h
     split at h
     ·exact h.elim
     ·rename_i fl hfl
      obtain ⟨I, ⟨m0, h0⟩, hall⟩ := h
      let T0 := delL cf.t q.1
      have hboth := codeIn_and hin hc.2
      let J : Nat → Cf → Prop := fun m cf1 => ∃ xs s, ap (shs sh) I xs s m ∧ cf1 = ⟨setL T0 q.2 (mks sh xs), cf.n, s, cf.ds⟩
      have hno : ∀ i, memN q.1 i = false → memN q.2 i = false := by
       intro i h1
       cases hb : memN q.2 i with
       | false => rfl
       | true =>
        have := hc.1.2 i (memN_iff.1 hb)
        rw [h1] at this; simp at this
      have hheadP2 : ∀ xs i, memN q.1 i = false → (setL T0 q.2 (mks sh xs)).get i = cf.t.get i := by
       intro xs i h1
       rw [setL_of (hno i h1), delL_of h1]
      have hheadP : ∀ xs, Pres asg cf.t (setL T0 q.2 (mks sh xs)) := by
       intro xs i hi
       refine hheadP2 xs i ?_
       cases hb : memN q.1 i with
       | false => rfl
       | true =>
        have := hc.1.1 i (memN_iff.1 hb)
        rw [hi] at this; simp at this
      refine .loop ?_
      have hstart : LoopD P rnd fn x ⟨setL T0 q.2 (mks sh fl), cf.n, cf.s, cf.ds⟩ fun e cf' => Q e cf' ∧ Pres asg cf.t cf'.t ∧ cf'.n = cf.n := by
       refine LoopD.inv J (m := m0) ⟨fl, cf.s, h0, rfl⟩ ?_
       rintro m cf1 ⟨xs, s, hap, rfl⟩
       obtain ⟨J', h1, h2⟩ := allC_ap hall hap
       have hrun := wpD_ok hmix (rnd := rnd) (fn := fn) x hD hX hdet hrf b _ _ _ hboth (h1 s m h2)
       refine hrun.mono fun e cf2 ⟨g1, g2, g3⟩ => ?_
       have gP : Pres asg cf.t cf2.t := (hheadP xs).trans fun i hi => g2 i (by simp [hi])
       cases e with
       | exit i => exact ⟨g1, gP, g3⟩
       | ret => exact ⟨g1, gP, g3⟩
       | normal =>
        simp only [loopQ] at g1
        split at g1
        ·rename_i hds
         split at g1
         ·rename_i vs hvs
          split at g1
          ·rename_i fl' hfl'
           obtain ⟨m', hm, hap'⟩ := g1
           refine ⟨m', ⟨setL T0 q.2 (mks sh fl'), cf.n, cf2.s, cf.ds⟩, hm, ⟨fl', cf2.s, hap', rfl⟩, ?_, g3.symm, (eqNs_eq hds).symm, rfl⟩
           rw [mks_flats hfl']
           refine setL_sub hvs fun i y hy => ?_
           obtain ⟨e1, e2⟩ := delL_get hy
           rw [g2 i (by simp [e1]), hheadP2 xs i e1]
           exact e2
          ·exact g1.elim
         ·exact g1.elim
        ·exact g1.elim
      intro hf
      obtain ⟨e, c1, q', g', r⟩ := hstart hf
      refine ⟨e, c1, q', g', ?_⟩
      intro φ a w b' k cs hcf hb hk hr
      refine r φ a w b' k cs (hcf.fewer ?_ rfl rfl rfl) hb hk hr
      rw [mks_flats hfl]
      exact setL_sub hsh fun i y hy => (delL_get hy).2
 | .region id ops d, C, hD, hX, hdet, rnd, hrf, b, cf, Q, asg, hc, h => by
  simp only [codeIn, List.all_eq_true] at hc
  simp only [wpC] at h
  cases d with
  | false =>
   intro hf
   obtain ⟨cf', ⟨q1, q2, q3, q4⟩, g, r⟩ := seqD_ok (P := P) hD hX hdet (asg := asg) ops.toList 0 cf _ (by simp) hc h hf
   refine ⟨.normal, cf', ⟨?_, q2, q3⟩, g, .region ?_⟩
   ·obtain ⟨t, n, s, ds⟩ := cf'
    simp only at q3 q4
    subst q3; subst q4
    exact q1
   ·intro φ a w b k cs hcf
    obtain ⟨c2, rfl, r2⟩ := r φ a w b k cs hcf
    exact ⟨_, ⟨rfl, rfl⟩, r2⟩
  | true =>
   refine (RunD.draw hD hX hmix hc h).mono fun e cf' ⟨he, q1, q2, q3, q4⟩ => ?_
   refine ⟨?_, q2, q3⟩
   obtain ⟨t, n, s, ds⟩ := cf'
   simp only at q3 q4
   subst q3; subst q4; subst he
   exact q1
 | .goto _, C, hD, hX, hdet, rnd, hrf, _, _, _, _, _, h => h.elim
 | .refuse _, C, hD, hX, hdet, rnd, hrf, _, _, _, _, _, h => h.elim
 | .rangeFunc g ps assign body, C, hD, hX, hdet, rnd, hrf, b, cf, Q, asg, hc, h => by
  simp only [codeIn] at hc
  simp only [wpC] at h
  rw [hdet] at h
  simp only at h
  split at h
  ·exact h.elim
  ·rename_i ts hts
   have hr : rnd = none := hrf.resolve_right fun e => by rw [e] at hts; simp [lookN] at hts
   subst hr
   rw [hts] at hc
   simp only [Bool.and_eq_true] at hc
   obtain ⟨f, hf, h⟩ := optK_ok h
   intro hfr
   have h := h _ _ ⟨rfl, rfl, hfr⟩ (fun pd st => .loop st pd fn cf.t cf.n ps.toList assign body cf.s.nx) _ _ ⟨rfl, rfl, new_fr hfr⟩ (allTs_of fun xs s R hl hw => by
    split at hw
    ·exact hw.elim
    ·rename_i t' ht'
     refine .of hl ht' ((wpD_ok hmix (fn := fn) assign (C := C.norf) hD hX hdet (.inr rfl) b _ _ _ hc.1 hw).mono fun e cf1 ⟨h1, _, _⟩ => ?_)
     cases e with
     | exit i => exact h1.elim
     | ret => exact h1.elim
     | normal =>
      obtain ⟨g1, g2⟩ := h1
      refine ⟨rfl, _, _, _, _, _, _, _, _, g1, (wpD_ok hmix (fn := fn) body (C := C.norf) hD hX hdet (.inr rfl) b _ _ _ hc.2 g2).mono fun e cf2 ⟨k1, _, _⟩ => ?_⟩
      unfold rndQ at k1
      split at k1
      ·exact k1.elim
      ·rename_i hds
       refine ⟨hds, ?_⟩
       cases e with
       | normal =>
        have k0 := k1.1
        unfold objAt at k0
        exact ⟨_, by simp only [endRound, k0]; rfl, k1.2⟩
       | exit i =>
        have k0 := k1.1
        unfold objAt at k0
        exact ⟨_, by simp only [endRound, k0]; rfl, k1.2⟩
       | ret =>
        have k0 := k1.1
        unfold objAt at k0
        exact ⟨_, by simp only [endRound, k0]; rfl, k1.2⟩)
   unfold itKD at h
   split at h
   ·rename_i q first caps
    split at h
    ·rename_i fi hfi
     obtain ⟨v, s3, h3, hG, hcall⟩ := h (new_fr (new_fr hfr))
     obtain ⟨e, st, q1, q2, q3⟩ := rfE_ok h3
     have hG1 : Gro cf.s ((cf.s.new (.dfd true)).2.new (.loop .ready none fn cf.t cf.n ps.toList assign body (cf.s.new (.dfd true)).1)).2 := (Gro.stNew hfr _).trans (Gro.stNew (new_fr hfr) _)
     refine ⟨e, _, ⟨q3, .refl _ _, rfl⟩, (hG1.trans hG).trans (Gro.set1 hG.1 q1), RunA.rangeFunc hD hf hfi fun _ => hcall.mono fun v' s3' ⟨_, e2⟩ => ?_⟩
     subst e2
     exact ⟨e, st, q1, q2, rfl, rfl⟩
    ·exact h.elim
   ·exact h.elim
theorem fnD_ok {C : Cx} (hD : TabOk P C.D) (hX : C.D.xst = []) (hdet : C.det = true) (hmix : P.follows .mixedOrders = true) {g : FuncId} {fi : FnI} (hfi : C.D.fn.get g = some fi) {args : List AV} {s : St} {Q : AV → St → Prop} (hc : codeIn C (fun _ => true) 1000000 fi.body = true)
  (h : wpC P C 1000000 fi.body ⟨PT.setAll .nil 0 args, max args.length fi.nt, s, []⟩ (endW C fi.results Q)) : CallsD P g args s Q := by
 intro hf
 obtain ⟨e, cf, ⟨h1, _, _⟩, hG, hrun⟩ := wpD_ok hmix (fn := g) _ hD hX hdet (.inl rfl) _ _ _ _ hc h hf
 have hx : ∃ x : AV × St, endFn C.D fi.results cf = some x ∧ Q x.1 x.2 ∧ Gro cf.s x.2 ∧ ∀ i, e ≠ .exit i := by
  cases e with
  | exit i => exact h1.elim
  | _ =>
   simp only [endW] at h1
   split at h1
   ·rename_i hds
    obtain ⟨vs, h2, h3⟩ := resK_ok h1
    exact ⟨(oneOf vs, cf.s), by simp only [endFn, hds, endDs, h2], h3, .refl hG.1, by simp⟩
   ·obtain ⟨s', g1, h1⟩ := h1
    obtain ⟨vs, h2, h3⟩ := resK_ok h1
    exact ⟨(oneOf vs, s'), by simp only [endFn, g1, h2], h3, endDs_gro hG.1 g1, by simp⟩
 obtain ⟨⟨v, s'⟩, e1, e2, e3, e4⟩ := hx
 simp only at e2 e3
 refine ⟨v, s', e2, hG.trans e3, .of_run hD hfi (hrun.mono fun e' cf' ⟨he, hcf⟩ => ?_)⟩
 subst he; subst hcf
 cases e' with
 | exit i => exact absurd rfl (e4 i)
 | _ => simp only [endK, e1]; first | exact ⟨trivial, trivial⟩ | exact ⟨rfl, rfl⟩
theorem CallsD.pure {g : FuncId} {args : List AV} {x : AV} (h : ∀ s, CallsA P g args s fun v _ => v = x) (hq : ground x = true) (s : St) : CallsD P g args s fun v s' => v = x ∧ s' = s :=
 fun hf => ⟨x, s, ⟨rfl, rfl⟩, .refl hf, CallsA.pure (Q := fun v => v = x) h (by rintro _ rfl; exact hq) s⟩
end
end Go.Eng

namespace Go.Eng
noncomputable section
variable {P : Program} {D : Tab} {α : Type}
structure Enc (α : Type) where
 f : α → List AV
 z : Nat
 pos : 0 < z
 len : ∀ a, (f a).length = z
theorem Enc.flat_len (E : Enc α) (l : List α) : (l.flatMap E.f).length = l.length * E.z := by
 induction l with
 | nil => simp
 | cons a r ih => simp only [List.flatMap_cons, List.length_append, E.len, ih, List.length_cons, Nat.add_mul]; omega
theorem Enc.flat_at (E : Enc α) : ∀ (l : List α) (k : Nat) (h : k < l.length), ((l.flatMap E.f).drop (k * E.z)).take E.z = E.f l[k]
 | [], k, h => by simp at h
 | a :: r, 0, h => by simp [List.take_append, E.len a]
 | a :: r, k + 1, h => by
  have := E.flat_at r k (by simpa using h)
  simp only [List.flatMap_cons, List.getElem_cons_succ]
  rw [List.drop_append, ← this]
  have e1 : (E.f a).drop ((k + 1) * E.z) = [] := by
   rw [List.drop_eq_nil_iff, E.len, Nat.add_mul]; omega
  have e2 : (k + 1) * E.z - (E.f a).length = k * E.z := by rw [E.len, Nat.add_mul]; omega
  rw [e1, e2]; rfl
def Sl (E : Enc α) (s : St) (x : AV) (l : List α) : Prop := SlR s x E.z (l.flatMap E.f)
def So (E : Enc α) (s : St) (x : AV) (l : List α) : Prop := SlO s x E.z (l.flatMap E.f)
theorem So.sl {E : Enc α} {s : St} {x : AV} {l : List α} (h : So E s x l) : Sl E s x l := SlO.r h
theorem So.nil (E : Enc α) (s : St) : So E s .nilslice [] := .inl ⟨rfl, rfl⟩
theorem Sl.nil (E : Enc α) (s : St) : Sl E s .nilslice [] := .inl ⟨rfl, rfl⟩
theorem Sl.len {E : Enc α} {s : St} {x : AV} {l : List α} (h : Sl E s x l) : slLen x = some l.length := by
 obtain ⟨n, h1, h2⟩ := SlR.len h
 rw [E.flat_len] at h2
 have := Nat.eq_of_mul_eq_mul_right E.pos h2
 rw [h1, this]
theorem Sl.slen {E : Enc α} {s : St} {x : AV} {l : List α} (h : Sl E s x l) {K : Nat → Prop} (hk : K l.length) : slenK x K := by
 unfold slenK
 rw [h.len]
 exact hk
theorem Sl.ixs {E : Enc α} {s : St} {x : AV} {l : List α} (h : Sl E s x l) {z : Nat} (hz : z = E.z) {i : Int} {k : Nat} (hi : i = (k : Int)) (hk : k < l.length) {K : Nat → Nat → Prop} (hK : ∀ b o, Rd s b o (E.f l[k]) → K b o) : ixsK z x i K := by
 subst hz; subst hi
 obtain ⟨b, o, cap, rfl, hr⟩ := SlR.at h h.len (i := (k : Int)) (by omega) (by omega)
 rw [Int.toNat_natCast, E.flat_at l k hk] at hr
 refine ⟨by omega, by omega, ?_⟩
 rw [mulS_eq, Int.toNat_natCast]
 exact hK _ _ hr
theorem Sl.fwd {E : Enc α} {s s' : St} {x : AV} {l : List α} (h : Sl E s x l) (hf : Frw [] s s') : Sl E s' x l := SlR.ext h hf
theorem Frw.step {s0 s s' : St} {M : List Nat} (h : Frw [] s0 s) (h' : Frw M s s') (hm : ∀ c, c ∈ M → s0.h.get c = none) : Frw [] s0 s' :=
 ⟨fun c o _ ho => h'.1 c o (fun hc => by rw [hm c hc] at ho; simp at ho) (h.1 c o (by simp) ho), Nat.le_trans h.2.1 h'.2.1, h'.2.2.trans h.2.2⟩
theorem So.append' {E : Enc α} {s : St} {x : AV} {l : List α} {a : α} {e : List AV} {t et : TypeId} {ti ei : TyI} {m : Nat} {zv : AV} (h : So E s x l) (hti : D.ty.get t = some ti) (hd : ti.d = .slice et) (hei : D.ty.get et = some ei) (hsz : ei.size = E.z) (hzv : ei.zero = some zv) (hzl : zv.cells.length = E.z)
  (h1 : ones e = true) (hR : Rd s m 0 e) (he : e = E.f a) (hb : (l.length + 1 + (l.length + 1) / 4 + 600) * ei.bytes ≤ pow48) (hbz : l.length + 1 ≤ pow48) (hfr : Fr s) :
  ∃ v s', appendX D s t t x (.slice m 0 1 (.exact 1)) = some (v, s') ∧ So E s' v (l ++ [a]) ∧ Frw (blkOf x) s s' ∧ blkOf v = [s.nx] ∧ Fr s' ∧ s'.nx = s.nx + 1 := by
 subst he
 obtain ⟨v, s', g1, g2, g3⟩ := SlO.append' h E.pos hti hd hei hsz hzv hzl (E.len a) h1 hR (fun n hn => by
  rw [E.flat_len] at hn
  have := Nat.eq_of_mul_eq_mul_right E.pos hn
  rw [← this]; exact ⟨hb, hbz⟩) hfr
 refine ⟨v, s', g1, ?_, g3⟩
 unfold So
 rw [List.flatMap_append]
 simpa using g2
theorem wrap_i64 {a : Int} (h0 : -9223372036854775808 ≤ a) (h1 : a < 9223372036854775808) : IntKind.wrap .i64 a = a := by
 simp [IntKind.wrap, IntKind.bits, IntKind.signed]
 omega
theorem wrap_u64 {a : Int} (h0 : 0 ≤ a) (h1 : a < 18446744073709551616) : IntKind.wrap .u64 a = a := by
 simp [IntKind.wrap, IntKind.bits, IntKind.signed]
 omega
end
end Go.Eng

namespace Go.Eng
noncomputable section
variable {P : Program} {D : Tab} {α : Type}
theorem Rd.all {s : St} {b o : Nat} {cs : List AV} (h : Rd s b o cs) {n : Nat} (hn : cs.length = n) : Eng.ldN s (.ptr b o) n = some cs := by
 subst hn
 have := h.ldN 0 cs.length (by omega)
 simpa using this
theorem Own.all {s : St} {b : Nat} {cs : List AV} (h : Own s b cs) {n : Nat} (hn : cs.length = n) : Eng.ldN s (.ptr b 0) n = some cs := h.rd.all hn
theorem Own.wrAll {s : St} {b : Nat} {cs : List AV} (h : Own s b cs) (vs : List AV) (hv : ones vs = true) (ho : vs.length = cs.length) :
  ∃ s', Eng.wrN s (.ptr b 0) vs = Option.some s' ∧ Own s' b vs ∧ Frw [b] s s' ∧ s'.nx = s.nx ∧ s'.nc = s.nc ∧ (∀ c, c ≠ b → s'.h.get c = s.h.get c) := by
 obtain ⟨s', h1, h2, h3⟩ := h.wrN 0 vs hv (by omega)
 refine ⟨s', h1, ?_, h3⟩
 have : splice cs 0 vs = vs := by simp [splice, ho]
 rwa [this] at h2
theorem Fr.wr {s s' : St} {b : Nat} (h : Fr s) (hb : s.h.get b ≠ none) (hn : s'.nx = s.nx) (hc : ∀ c, c ≠ b → s'.h.get c = s.h.get c) : Fr s' := by
 intro c hl
 rw [hn] at hl
 by_cases e : c = b
 ·subst e; exact absurd (h c hl) hb
 ·rw [hc c e]; exact h c hl
theorem NewO.put {s s1 : St} {cs : List AV} {b : Nat} (h : NewO s (cellsO cs) b s1) (vs : List AV) (hv : ones vs = true) (hl : vs.length = cs.length) : ∃ s', Eng.wrN s1 (.ptr b 0) vs = Option.some s' ∧ Own s' b vs ∧ Frw [] s s' ∧ Fr s' := by
 obtain ⟨s', w1, w2, w3, w4, w5, w6⟩ := h.own.wrAll vs hv hl
 refine ⟨s', w1, w2, ⟨fun c o _ ho => ?_, by rw [w4]; exact h.fwd.2.1, w3.2.2.trans h.fwd.2.2⟩, h.fr.wr h.own.there w4 w6⟩
 have : c ≠ b := by rintro rfl; rw [h.gone] at ho; simp at ho
 exact w3.1 c o (by simpa using this) (h.fwd.1 c o (by simp) ho)
theorem Bump.fr {s s' : St} {n : Nat} (h : Bump s n s') : Fr s' := by
 obtain ⟨rfl, hf⟩ := h
 exact fun c hc => hf c (by simp at hc; omega)
theorem Bump.get {s s' : St} {n : Nat} (h : Bump s n s') (c : Nat) : s'.h.get c = s.h.get c := by
 obtain ⟨rfl, hf⟩ := h; rfl
theorem Frw.none {s s' : St} {M : List Nat} (h : Frw M s s') {c : Nat} (hc : s'.h.get c = Option.none) (hm : c ∉ M) : s.h.get c = Option.none := by
 cases e : s.h.get c with
 | none => rfl
 | some o => rw [h.1 c o hm e] at hc; simp at hc
theorem Own.ext {s s' : St} {b : Nat} {cs : List AV} (h : Own s b cs) (hf : Frw [] s s') : Own s' b cs := h.fwd hf (by simp)
theorem Sl.one {E : Enc α} {s : St} {x : AV} {l : List α} (h : Sl E s x l) {R : Prop} (hR : R) : oneK x R := by
 have := h.len
 cases x <;> first | exact hR | simp [slLen] at this
theorem Sl.onesx {E : Enc α} {s : St} {x : AV} {l : List α} (h : Sl E s x l) (r : List AV) : ones (x :: r) = ones r := by
 have := h.len
 cases x <;> first | rfl | simp [slLen] at this
theorem Sl.ext {E : Enc α} {s s' : St} {x : AV} {l : List α} (h : Sl E s x l) (hf : Frw [] s s') : Sl E s' x l := h.fwd hf
def Gone (s : St) (x : AV) : Prop := ∀ c, c ∈ blkOf x → s.h.get c = Option.none
theorem Gone.nil (s : St) : Gone s .nilslice := by simp [Gone, blkOf]
theorem Gone.back {s0 s : St} {x : AV} (h : Gone s x) (hf : Frw [] s0 s) : Gone s0 x := fun c hc => hf.none (h c hc) (by simp)
theorem Sl.wr {E : Enc α} {s0 s s' : St} {x : AV} {l : List α} {b : Nat} (h : Sl E s x l) (hf : Frw [b] s s') (hg : Gone s0 x) (hb : s0.h.get b ≠ Option.none) : Sl E s' x l :=
 SlR.fwd h hf fun m hm => .inr fun b' o n cap hx => by
  have hm : m = b := by simpa using hm
  subst hm; subst hx
  rintro rfl
  exact hb (hg _ (by simp [blkOf]))
theorem So.beside {E : Enc α} {s s' : St} {x : AV} {l : List α} {M : List Nat} (h : So E s x l) (hf : Frw M s s') (hM : ∀ c, c ∈ M → c ∉ blkOf x) : So E s' x l := by
 rcases h with h | ⟨b1, k1, n1, c1, rfl, q2, q3, q4⟩
 ·exact .inl h
 ·exact .inr ⟨b1, k1, n1, c1, rfl, q2, hf.1 _ _ (fun hc => hM _ hc (by simp [blkOf])) q3, q4⟩
theorem So.ext {E : Enc α} {s s' : St} {x : AV} {l : List α} (h : So E s x l) (hf : Frw [] s s') : So E s' x l := h.beside hf (by simp)
theorem Sl.new {E : Enc α} {s0 s s' : St} {x : AV} {l : List α} {b : Nat} (h : Sl E s x l) (h0 : Sl E s0 x l) (hb : s0.h.get b = Option.none) (hf : Frw [b] s s') : Sl E s' x l := by
 rcases h0 with h0 | ⟨b1, o1, n1, cap1, rfl, h1, h2⟩
 ·exact .inl h0
 ·exact SlR.fwd h hf fun m hm => .inr fun b' o n cap hx => by
   cases hx
   rintro rfl
   have hm : b1 = b := by simpa using hm
   subst hm
   exact h2.there hb
end
end Go.Eng

