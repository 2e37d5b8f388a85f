/- Symbolic steps, third part: one operation. -/
import Derived.Test.YtpegkoklmhccjaaDoorSxB
import Derived.RangeFuncLeaves
import Derived.RangeFuncSeq
import Derived.RangeFuncNested
import Derived.TacticsIn
import Derived.OrdersIn
namespace Go.Sx
open Go Go.RowKit

structure Cx where
  P : Program
  T : Tab
  N : Nat
  M : Bks
  B : World
  F : Option Nat := none
/-- where it runs: by itself, or in a round of a loop over a function -/
def Cx.fence (C : Cx) : Fence := match C.F with
  | none => Fence.wide
  | some l => Fence.wide.inRound l
/-- what comes of an operation -/
def Fin (C : Cx) (next : Value → List Ent → Prop) : Result Next → Prop
  | .ok (.value v) w' => ∃ L', St C.M C.B w' L' ∧ next v L'
  | .ok .skip w' => ∃ L', St C.M C.B w' L' ∧ next undef L'
  | .ok (.enter g args) w' => Calls C.P g args w' fun e w'' => ∃ v L', e = .returned v ∧ St C.M C.B w'' L' ∧ next v L'
  | .ok (.row row args) w' => Rows C.P row args w' fun v w'' => ∃ L', St C.M C.B w'' L' ∧ next v L'
  | .ok (.round l f tmps assign body) w' => ∀ m, RoundIn Fence.wide m C.P l f tmps assign body w' fun e w'' => ∃ v L', e = .returned v ∧ St C.M C.B w'' L' ∧ next v L'
  | _ => False
def OpS (C : Cx) (o : Oper) (ρ : Operand → Value) (w : World) (next : Value → List Ent → Prop) : Prop := Fin C next ((execOp ρ o).run C.P w)
/-- an operation that is not reckoned here -/
structure OpP (C : Cx) (o : Oper) (σ : Fr) (L : List Ent) (next : Value → List Ent → Prop) : Prop where
  go : ∀ ρ w, Fit σ ρ → St C.M C.B w L → OpS C o ρ w next

structure CondQ (b : Bool) (p q : Prop) : Prop where
  t : b = true → p
  f : b = false → q
theorem CondQ.both {b : Bool} {p q : Prop} (h : CondQ b p q) : if b = true then p else q := by cases b; exact h.f rfl; exact h.t rfl
inductive Cv (k : IntKind) (n : Int) (next : Value → Prop) : Prop
  | same (lo : mn k ≤ n) (hi : n ≤ mx k) (go : next (.int k n))
  | wrap (go : next (.int k (modk k n)))
  | as (r' : Int) (e : n = r') (lo : mn k ≤ r') (hi : r' ≤ mx k) (go : next (.int k r'))
  | to (r' : Int) (e : modk k n = r') (go : next (.int k r'))
def nad : Nat → Nat → Nat
  | 0, b => b
  | a + 1, b => a + 1 + b
theorem nad_eq (a b : Nat) : nad a b = a + b := by cases a <;> simp [nad]
def nmu (a : Nat) : Nat → Nat
  | 1 => a
  | n => a * n
theorem nmu_eq (a b : Nat) : nmu a b = a * b := by unfold nmu; split <;> simp
structure IdxP (i : Int) (n : Nat) (p : Prop) : Prop where
  lo : 0 ≤ i
  hi : i < n
  go : p
/-- one cell is read -/
inductive Ld1 (C : Cx) (L : List Ent) (b o : Nat) (next : Value → Prop) : Prop
  | mk (v : Value) (h : ∀ w, St C.M C.B w L → w.cell? ⟨b, o, none⟩ = some v) (go : next v)
/-- n cells are read -/
inductive LdN (C : Cx) (L : List Ent) (b o n : Nat) (next : Value → Prop) : Prop
  | mk (c : Array Value) (hn : c.size = n) (h : ∀ w, St C.M C.B w L → w.rangeAt b o c.toList) (go : next (.agg c))
/-- something is stored -/
inductive StP (C : Cx) (t : TypeId) (L : List Ent) (b o : Nat) (v : Value) (next : List Ent → Prop) : Prop
  | mk (L' : List Ent) (h : ∀ w, St C.M C.B w L → ∃ w', (storeVar t ⟨b, o, none⟩ v).run C.P w = .ok () w' ∧ St C.M C.B w' L') (go : next L')
inductive BuP (P : Program) (t : TypeId) (ps : Array (Nat × Value)) (next : Value → Prop) : Prop
  | mk (v : Value) (h : ∀ w, (Instr.build t ps).run P w = .ok v w) (go : next v)
inductive BsP (C : Cx) (t n : Nat) (ps : Array (Nat × Value)) (L : List Ent) (next : Value → List Ent → Prop) : Prop
  | mk (c : Array Value) (e : TypeId) (h : ∀ w, (Instr.buildSlice t n ps).run C.P w = .ok (.slice (some ⟨w.heap.size, 0, none⟩) n n) (w.alloc (.cells c e))) (go : ∀ b, next (.slice (some ⟨b, 0, none⟩) n n) (L ++ [cl b c e]))
inductive MsP (C : Cx) (t : TypeId) (u v : Value) (L : List Ent) (next : Value → List Ent → Prop) : Prop
  | mk (l m : Nat) (c : Array Value) (e : TypeId) (h : ∀ w, (Instr.makeSlice t u v).run C.P w = .ok (.slice (some ⟨w.heap.size, 0, none⟩) l m) (w.alloc (.cells c e))) (go : ∀ b, next (.slice (some ⟨b, 0, none⟩) l m) (L ++ [cl b c e]))
/-- a part of a value -/
inductive PtP (c : Array Value) (o n : Nat) (agg : Bool) (next : Value → Prop) : Prop
  | cell (v : Value) (ha : agg = false) (h : c[o]? = some v) (go : next v)
  | row (d : Array Value) (ha : agg = true) (h : c.extract o (o + n) = d) (go : next (.agg d))
structure ChP (s : ByteArray) (i : Int) (next : Value → Prop) : Prop where
  lo : 0 ≤ i
  hi : i.toNat < s.size
  go : next (.int .u8 (s[i.toNat]).toNat)
structure LenP (n m : Nat) (p : Prop) : Prop where
  h : n ≤ m
  go : p
def oi : Option Int → Nat → Int
  | some x, _ => x
  | none, n => n
/-- bounds of a slice expression -/
inductive SlP (len cap : Nat) (lo hi mx : Option Int) (next : Nat → Nat → Nat → Prop) : Prop
  | mk (l h m : Nat) (hm : oi mx cap = (m : Int)) (hh : oi hi len = (h : Int)) (hl : oi lo 0 = (l : Int)) (h1 : l ≤ h) (h2 : h ≤ m) (h3 : m ≤ cap) (h4 : hi = none → mx = none) (go : next l h m)
/-- where a slice lies -/
inductive PlP (m l : Nat) (a a' : Addr) (next : Addr → Prop) : Prop
  | on (h : l < m) (go : next a')
  | all (h : m = l) (go : next a)
/-- a function is called -/
structure CallP (C : Cx) (g : FuncId) (args : List Value) (L : List Ent) (next : Value → List Ent → Prop) : Prop where
  go : ∀ w, St C.M C.B w L → Calls C.P g args.toArray w fun e w' => ∃ v L', e = .returned v ∧ St C.M C.B w' L' ∧ next v L'

def callable (T : Tab) (g : Nat) : Bool := Nat.blt g T.fns && !T.ext.contains g
def oev (σ : Fr) : Option Operand → (Option Value → Prop) → Prop
  | none, k => k none
  | some x, k => ev σ x fun v => k (some v)
def oint : Option Value → (Option Int → Prop) → Prop
  | none, k => k none
  | some (.int _ n), k => k (some n)
  | _, _ => False
def pevs (σ : Fr) : List (Nat × Operand) → (List (Nat × Value) → Prop) → Prop
  | [], k => k []
  | p :: l, k => ev σ p.2 fun v => pevs σ l fun vs => k ((p.1, v) :: vs)

def cvV (C : Cx) (s d : TypeId) (v : Value) (next : Value → Prop) (fb : Prop) : Prop := look C.T.rows s fun ys _ => look C.T.rows d fun y _ => match ys with
  | .sl _ _ => fb
  | _ => match y, v with
    | .int k, .int _ n => Cv k n next
    | .str, .string s => next (.string s)
    | _, _ => fb
def ncV (v : Value) (next : Value → Prop) (fb : Prop) : Prop := match v with
  | .pointer (some a) => next (.pointer (some a))
  | .iface t u => next (.iface t u)
  | .func (.func g) a b => next (.func (.func g) a b)
  | _ => fb
def exV (v : Value) (i : Nat) (next : Value → Prop) : Prop := match v with
  | .tuple vs => lookup_n vs.toList i next
  | _ => False
def faV (C : Cx) (t : TypeId) (v : Value) (f : Nat) (next : Value → Prop) : Prop := look C.T.rows t fun y _ => match y, v with
  | .st fs, .pointer (some ⟨b, o, none⟩) => lookup_n fs f fun p => next (.pointer (some ⟨b, nad o p.1, none⟩))
  | _, _ => False
def iaV (C : Cx) (t : TypeId) (v i : Value) (next : Value → Prop) : Prop := look C.T.rows t fun y _ => match y, v, i with
  | .arr len _ n _, .pointer (some ⟨b, o, none⟩), .int _ i => IdxP i len (next (.pointer (some ⟨b, nad o (nmu i.toNat n), none⟩)))
  | .sl _ n, .slice (some ⟨b, o, none⟩) len _, .int _ i => IdxP i len (next (.pointer (some ⟨b, nad o (nmu i.toNat n), none⟩)))
  | _, _, _ => False
def ixV (C : Cx) (t : TypeId) (v i : Value) (next : Value → Prop) : Prop := look C.T.rows t fun y _ => match y, v, i with
  | .arr len _ n g, .agg c, .int _ i => IdxP i len (PtP c (nmu i.toNat n) n g next)
  | .str, .string s, .int _ i => ChP s i next
  | _, _, _ => False
def fiV (C : Cx) (t : TypeId) (v : Value) (f : Nat) (next : Value → Prop) : Prop := look C.T.rows t fun y _ => match y, v with
  | .st fs, .agg c => lookup_n fs f fun p => PtP c p.1 p.2.1 p.2.2 next
  | _, _ => False
def ldV (C : Cx) (t : TypeId) (v : Value) (L : List Ent) (next : Value → Prop) : Prop := look C.T.rows t fun y n => match v with
  | .pointer (some ⟨b, o, none⟩) => cond y.agg (LdN C L b o n next) (Ld1 C L b o next)
  | _ => False
def sliM (y : Ty) (v : Value) (lo hi mx : Option Int) (next : Value → Prop) (fb : Prop) : Prop := match y, v with
  | .arr len _ n _, .pointer (some ⟨b, o, none⟩) => SlP len len lo hi mx fun l h m => PlP m l ⟨b, o, none⟩ ⟨b, nad o (nmu l n), none⟩ fun a => next (.slice (some a) (h - l) (m - l))
  | .sl _ n, .slice (some ⟨b, o, none⟩) len cap => SlP len cap lo hi mx fun l h m => PlP m l ⟨b, o, none⟩ ⟨b, nad o (nmu l n), none⟩ fun a => next (.slice (some a) (h - l) (m - l))
  | .sl _ _, .slice none len cap => SlP len cap lo hi mx fun l h m => next (.slice none (h - l) (m - l))
  | .str, .string s => match mx with
    | none => SlP s.size s.size lo hi none fun l h _ => next (.string (s.extract l h))
    | some _ => fb
  | _, _ => fb
/-- a slice expression -/
structure SliP (y : Ty) (v : Value) (lo hi mx : Option Int) (next : Value → Prop) (fb : Prop) : Prop where
  go : sliM y v lo hi mx next fb
def sliV (C : Cx) (t : TypeId) (v : Value) (lo hi mx : Option Int) (next : Value → Prop) (fb : Prop) : Prop := look C.T.rows t fun y _ => SliP y v lo hi mx next fb
def lenV (C : Cx) (t : TypeId) (v : Value) (next : Value → Prop) (fb : Prop) : Prop := look C.T.rows t fun y _ => match y, v with
  | .str, .string s => next (.int .i64 s.size)
  | .sl _ _, .slice _ n _ => next (.int .i64 n)
  | .arr len _ _ _, _ => next (.int .i64 len)
  | .map _ _, .map none => next (.int .i64 0)
  | _, _ => fb
def capV (C : Cx) (t : TypeId) (v : Value) (next : Value → Prop) (fb : Prop) : Prop := look C.T.rows t fun y _ => match y, v with
  | .sl _ _, .slice _ _ n => next (.int .i64 n)
  | _, _ => fb
def saV (C : Cx) (t : TypeId) (v : Value) (next : Value → Prop) : Prop := look C.T.rows t fun y _ => match y, v with
  | .arr len _ _ _, .slice a n _ => LenP len n (next (.pointer a))
  | _, _ => False
def miV (C : Cx) (t : TypeId) (v : Value) (next : Value → Prop) : Prop := look C.T.rows t fun y _ => match y with
  | .ifc => False
  | _ => next (.iface t v)
/-- a round is asked for -/
structure YieldP (C : Cx) (l : Nat) (args : List Value) (L : List Ent) (next : Value → List Ent → Prop) : Prop where
  go : ∀ w, St C.M C.B w L → ∀ m, YieldAt Fence.wide m C.P l args.toArray w fun e w' => ∃ v L', e = .returned v ∧ St C.M C.B w' L' ∧ next v L'
def callV (C : Cx) (f : Value) (args : List Value) (L : List Ent) (next : Value → List Ent → Prop) (fb : Prop) : Prop := match f with
  | .func (.func g) fs cs => cond (callable C.T g) (CallP C g (fs.toList ++ (args ++ cs.toList)) L next) fb
  | .func (.yield l) fs _ => YieldP C l (fs.toList ++ args) L next
  | _ => fb
def stoV (C : Cx) (t : TypeId) (u v : Value) (L : List Ent) (next : List Ent → Prop) : Prop := match u with
  | .pointer (some ⟨b, o, none⟩) => StP C t L b o v next
  | _ => False
/-- an operation that only reads -/
def tx (C : Cx) (o : Oper) (σ : Fr) (L : List Ent) (next : Value → Prop) (fb : Prop) : Prop := match o.op with
  | .move x => ev σ x next
  | .assign x => ev σ x next
  | .pick c a b => ev σ c fun u => ev σ a fun x => ev σ b fun y => match u with
    | .bool t => CondQ t (next x) (next y)
    | _ => fb
  | .build t ps => pevs σ ps.toList fun vs => BuP C.P t vs.toArray next
  | .load t x => ev σ x fun v => ldV C t v L next
  | .nilCheck x => ev σ x fun v => ncV v next fb
  | .binOp op t x y _ => ev σ x fun u => ev σ y fun v => binV C.T op t (isC x || isC y) u v next fb
  | .unOp op _ x => ev σ x fun v => unV op v next fb
  | .convert s d x => ev σ x fun v => cvV C s d v next fb
  | .sliceToArrayPointer t x => ev σ x fun v => saV C t v next
  | .makeInterface t x => ev σ x fun v => miV C t v next
  | .makeFunc fn fs cs => evs σ fs.toList fun a => evs σ cs.toList fun b => next (.func fn a.toArray b.toArray)
  | .slice t x lo hi m => ev σ x fun v => oev σ lo fun lo => oev σ hi fun hi => oev σ m fun m => oint lo fun lo => oint hi fun hi => oint m fun m => sliV C t v lo hi m next fb
  | .fieldAddr t x f => ev σ x fun v => faV C t v f next
  | .field t x f => ev σ x fun v => fiV C t v f next
  | .indexAddr t x i => ev σ x fun v => ev σ i fun j => iaV C t v j next
  | .index t x i => ev σ x fun v => ev σ i fun j => ixV C t v j next
  | .extract x i => ev σ x fun v => exV v i next
  | .call c => match c.callee with
    | .builtin .len => match c.args.toList, c.argTypes.toList with
      | [x], [t] => ev σ x fun v => lenV C t v next fb
      | _, _ => fb
    | .builtin .cap => match c.args.toList, c.argTypes.toList with
      | [x], [t] => ev σ x fun v => capV C t v next fb
      | _, _ => fb
    | _ => fb
  | _ => fb
/-- something is worked out -/
structure SemP (C : Cx) (m : Sem Value) (L : List Ent) (next : Value → List Ent → Prop) : Prop where
  go : ∀ w, St C.M C.B w L → ∃ v w' L', m.run C.P w = .ok v w' ∧ St C.M C.B w' L' ∧ next v L'
structure SemU (C : Cx) (m : Sem Unit) (L : List Ent) (next : List Ent → Prop) : Prop where
  go : ∀ w, St C.M C.B w L → ∃ w' L', m.run C.P w = .ok () w' ∧ St C.M C.B w' L' ∧ next L'
/-- a builtin -/
structure BiP (C : Cx) (b : Builtin) (ts : Array TypeId) (t : TypeId) (cs : Array Bool) (vs : List Value) (L : List Ent) (next : Value → List Ent → Prop) : Prop where
  go : ∀ w, St C.M C.B w L → Fin C next ((builtin b ts t cs vs.toArray).run C.P w)
def consts (c : Call) : Array Bool := c.args.map fun | .const _ => true | _ => false
def ox (C : Cx) (o : Oper) (σ : Fr) (L : List Ent) (next : Value → List Ent → Prop) : Prop := match o.op with
  | .alloc t => zof C.T.zero t fun c => ∀ b, next (.pointer (some ⟨b, 0, none⟩)) (L ++ [cl b c t])
  | .box t x => ev σ x fun v => ∀ b, next (.pointer (some ⟨b, 0, none⟩)) (L ++ [cl b v.cells t])
  | .buildSlice t n ps => pevs σ ps.toList fun vs => BsP C t n vs.toArray L next
  | .store t x y => ev σ x fun u => ev σ y fun v => stoV C t u v L fun L' => next undef L'
  | .makeSlice t x y => ev σ x fun u => ev σ y fun v => MsP C t u v L next
  | .binOp op t x y _ => ev σ x fun u => ev σ y fun v => binV C.T op t (isC x || isC y) u v (fun r => next r L) (SemP C (do eqGuard op t x y u v; binOp op t u v) L next)
  | .convert s d x => ev σ x fun v => cvV C s d v (fun r => next r L) (SemP C (convert s d v) L next)
  | .lookup t x i ok => ev σ x fun v => ev σ i fun j => SemP C (Instr.lookup t v j ok) L next
  | .mapUpdate t m k x => ev σ m fun m => ev σ k fun k => ev σ x fun v => SemU C (Instr.mapUpdate t m k v) L fun L' => next undef L'
  | .insert t m k x => ev σ m fun m => ev σ k fun k => ev σ x fun v => SemU C (Instr.mapUpdate t m k v) L fun L' => next undef L'
  | .makeMap t none => SemP C (Instr.makeMap t none) L next
  | .mapEntry t m k => ev σ m fun m => ev σ k fun k => SemP C (Instr.mapEntry t m k) L next
  | .entryStore t m k x => ev σ m fun m => ev σ k fun k => ev σ x fun v => SemU C (Instr.entryStore t m k v) L fun L' => next undef L'
  | .range t x => ev σ x fun v => SemP C (Instr.range t v) L next
  | .next x s => ev σ x fun v => SemP C (Instr.next v s o.type) L next
  | .entry x => ev σ x fun v => SemP C (Instr.entry v) L next
  | .typeAssert x t u ok => ev σ x fun v => SemP C (Instr.typeAssert v t u ok) L next
  | .call c => match c.callee with
    | .value f => ev σ f fun g => evs σ c.args.toList fun vs => callV C g vs L next (OpP C o σ L next)
    | .builtin .len => tx C o σ L (fun v => next v L) (OpP C o σ L next)
    | .builtin .cap => tx C o σ L (fun v => next v L) (OpP C o σ L next)
    | .builtin b => evs σ c.args.toList fun vs => BiP C b c.argTypes o.type (consts c) vs L next
    | .invoke _ _ => OpP C o σ L next
  | _ => tx C o σ L (fun v => next v L) (OpP C o σ L next)

variable {C : Cx} {o : Oper} {σ : Fr} {L : List Ent} {ρ : Operand → Value} {w : World} {next : Value → List Ent → Prop}
theorem Fin.val {next : Value → List Ent → Prop} {r : Result Next} {v : Value} {w' : World} (h : r = .ok (.value v) w') (hs : St C.M C.B w' L) (hn : next v L) : Fin C next r := by
  rw [h]; exact ⟨L, hs, hn⟩
theorem OpS.val {s : Sem Value} {v : Value} {w' : World} {L' : List Ent} (he : execOp ρ o = (do pure (.value (← s)))) (hr : s.run C.P w = .ok v w') (hs : St C.M C.B w' L') (hn : next v L') : OpS C o ρ w next := by
  unfold OpS
  rw [he, Sem.run_bind, hr]
  exact ⟨L', hs, hn⟩
theorem run_typeInfo {P : Program} {t : TypeId} {i : TypeInfo} (h : P.info? t = some i) (w : World) : (typeInfo t).run P w = .ok i w := by
  simp [typeInfo, program, Sem.run, h]
theorem run_sizeOf {P : Program} {t n : Nat} (h : (P.info? t).map (·.size) = some n) (w : World) : (sizeOf t).run P w = .ok n w := by
  cases hi : P.info? t with
  | none => rw [hi] at h; cases h
  | some i => rw [hi] at h; simp [sizeOf, run_typeInfo hi]; simpa using h
theorem run_isAgg {P : Program} {t : TypeId} {g : Bool} (h : descAgg (P.underlying t) = g) (hs : (P.underlying t).isSome = true) (w : World) : (isAgg t).run P w = .ok g w := by
  cases hu : P.underlying t with
  | none => rw [hu] at hs; cases hs
  | some d => rw [hu] at h; subst h; cases d <;> simp [isAgg, run_underlying hu, descAgg]
theorem Says.agg {P : Program} {t : Nat} {y : Ty} (h : Says P t y) : descAgg (P.underlying t) = y.agg ∧ (P.underlying t).isSome = true := by
  cases y <;> simp only [Says] at h
  case ptr => obtain ⟨_, h⟩ := h; rw [h]; exact ⟨rfl, rfl⟩
  case ifc => obtain ⟨_, h⟩ := h; rw [h]; exact ⟨rfl, rfl⟩
  case fn => obtain ⟨_, _, _, h⟩ := h; rw [h]; exact ⟨rfl, rfl⟩
  case st => obtain ⟨_, h, _⟩ := h; rw [h]; exact ⟨rfl, rfl⟩
  case sl => rw [h.1]; exact ⟨rfl, rfl⟩
  case arr => rw [h.1]; exact ⟨rfl, rfl⟩
  all_goals rw [h]; exact ⟨rfl, rfl⟩
theorem addr_add (b o n : Nat) : (⟨b, o, none⟩ : Addr).add n = ⟨b, o + n, none⟩ := by unfold Addr.add; split <;> simp_all
theorem PtP.ok {P : Program} {c : Array Value} {off n : Nat} {g : Bool} {next : Value → Prop} {t : TypeId} (h : PtP c off n g next) (hn : (P.info? t).map (·.size) = some n) (hg : descAgg (P.underlying t) = g) (hs : (P.underlying t).isSome = true) :
    ∃ v, next v ∧ ∀ w, (part t c off).run P w = .ok v w := by
  cases h with
  | cell v ha h go => subst ha; exact ⟨v, go, fun w => by simp [part, run_isAgg hg hs, h]⟩
  | row d ha h go => subst ha; exact ⟨_, go, fun w => by simp [part, run_isAgg hg hs, run_sizeOf hn, h]⟩
theorem run_bound {P : Program} {x : Int} {n m : Nat} {k : IntKind} {code : BoundsCode} (hx : x = m) (hm : m ≤ n) (w : World) : (Instr.sliceBound (.int k x) n code).run P w = .ok m w := by
  subst hx
  simp [Instr.sliceBound, asIntOf, hm]
/-- the value's number -/
def isInt (v : Value) (n : Int) : Prop := ∃ k, v = .int k n
theorem run_bounds {P : Program} {s : Bool} {len cap : Nat} {lo hi mx : Option Value} {lo' hi' mx' : Option Int} {l h m : Nat} (e1 : ∀ v, lo = some v → ∃ k n, v = .int k n ∧ lo' = some n) (e1n : lo = none → lo' = none) (e2 : ∀ v, hi = some v → ∃ k n, v = .int k n ∧ hi' = some n) (e2n : hi = none → hi' = none)
    (e3 : ∀ v, mx = some v → ∃ k n, v = .int k n ∧ mx' = some n) (e3n : mx = none → mx' = none)
    (hm : oi mx' cap = (m : Int)) (hh : oi hi' len = (h : Int)) (hl : oi lo' 0 = (l : Int)) (h1 : l ≤ h) (h2 : h ≤ m) (h3 : m ≤ cap) (h4 : hi' = none → mx' = none) (w : World) : (Instr.sliceBounds s len cap lo hi mx).run P w = .ok (l, h, m) w := by
  have rb : ∀ (k : IntKind) (a n : Nat) (code : BoundsCode), a ≤ n → ∀ w, (Instr.sliceBound (.int k a) n code).run P w = .ok a w := fun k a n code h w => run_bound rfl h w
  have xm : (mx = none ∧ m = cap) ∨ ∃ k, mx = some (.int k m) := by
    cases mx with
    | none => rw [e3n rfl] at hm; simp only [oi] at hm; exact .inl ⟨rfl, by omega⟩
    | some v => obtain ⟨k, n, rfl, hn⟩ := e3 v rfl; rw [hn] at hm; simp only [oi] at hm; subst hm; exact .inr ⟨k, rfl⟩
  have xh : (hi = none ∧ mx = none ∧ h = len) ∨ ∃ k, hi = some (.int k h) := by
    cases hi with
    | none =>
      have hn := e2n rfl
      rw [hn] at hh; simp only [oi] at hh
      refine .inl ⟨rfl, ?_, by omega⟩
      cases mx with
      | none => rfl
      | some v => obtain ⟨k, n, rfl, hn'⟩ := e3 v rfl; have := h4 hn; rw [hn'] at this; cases this
    | some v => obtain ⟨k, n, rfl, hn⟩ := e2 v rfl; rw [hn] at hh; simp only [oi] at hh; subst hh; exact .inr ⟨k, rfl⟩
  have xl : (lo = none ∧ l = 0) ∨ ∃ k, lo = some (.int k l) := by
    cases lo with
    | none => rw [e1n rfl] at hl; simp only [oi] at hl; exact .inl ⟨rfl, by omega⟩
    | some v => obtain ⟨k, n, rfl, hn⟩ := e1 v rfl; rw [hn] at hl; simp only [oi] at hl; subst hl; exact .inr ⟨k, rfl⟩
  clear e1 e1n e2 e2n e3 e3n hm hh hl h4
  rcases xm with ⟨rfl, rfl⟩ | ⟨k1, rfl⟩ <;> rcases xh with ⟨rfl, h5, rfl⟩ | ⟨k2, rfl⟩ <;> rcases xl with ⟨rfl, rfl⟩ | ⟨k3, rfl⟩ <;>
    first | (cases h5; done) | simp [Instr.sliceBounds, rb _ _ _ _ h1, rb _ _ _ _ h2, rb _ _ _ _ h3]
theorem oint_spec {v : Option Value} {k : Option Int → Prop} (h : oint v k) : ∃ n, k n ∧ (∀ u, v = some u → ∃ q m, u = .int q m ∧ n = some m) ∧ (v = none → n = none) := by
  unfold oint at h
  split at h
  · exact ⟨none, h, by simp, by simp⟩
  · rename_i q n; exact ⟨some n, h, by rintro u hu; obtain rfl := Option.some.inj hu; exact ⟨q, n, rfl, rfl⟩, by simp⟩
  · exact h.elim
theorem oev_spec {x : Option Operand} {k : Option Value → Prop} (hf : Fit σ ρ) (h : oev σ x k) : k (x.map ρ) := by
  cases x with
  | none => exact h
  | some x => exact hf x (fun v => k (some v)) h
theorem pevs_spec {l : List (Nat × Operand)} {k : List (Nat × Value) → Prop} (hf : Fit σ ρ) (h : pevs σ l k) : k (l.map fun p => (p.1, ρ p.2)) := by
  induction l generalizing k with
  | nil => exact h
  | cons p l ih => exact ih (hf p.2 _ h)
theorem PlP.ok {m l : Nat} {a a' : Addr} {next : Addr → Prop} (h : PlP m l a a' next) : next (if m = l then a else a') := by
  cases h with
  | on h go => rw [if_neg (by omega)]; exact go
  | all h go => rw [if_pos h]; exact go
end Go.Sx
