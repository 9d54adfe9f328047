/- Texts put together: Fw Ops Mem Obj Auto Any Map T Range U. Conditions: none. -/
import Derived.WalkKit
import Derived.Deep.Quiet
import Derived.OrdersIn
import Derived.RangeFuncRecord
import Derived.Laws.OwnMore
import Derived.Laws.Pointers
import Derived.WalkSpells
import Derived.LaidEql
import Derived.WideLaws
import Derived.MapKept
import Derived.Maps.RangeRun
import Derived.Laws.Cells
import Derived.Test.YtmdpconhbmkokaaGreatProg
import Derived.KernelRfl
import Derived.Shelf.Lays
import Derived.Shelf.Sort.AssemblyIn
import Derived.Shelf.Slices.In.SortNone
import Derived.Sort.EveryDepth
import Derived.Laws.CopyRow
import Derived.Laws.Tables
import Derived.Laws.BytesArg
import Derived.DefersIn
import Derived.Conc.LoneSelect
import Derived.Deep.Slices
import Derived.WideShapes
import Derived.Deep.Matrix
import Derived.OpenShut
set_option linter.unusedSimpArgs false
set_option linter.unusedVariables false
namespace Go.Art
open Go
abbrev Fr:=List (Nat × Value)
theorem nbeq_f {a b:Nat} (h:¬ a = b):Nat.beq a b = false:=by
 cases hb:Nat.beq a b with
 | false=>rfl
 | true=>exact absurd (Nat.eq_of_beq_eq_true hb) h
theorem nbeq_ne {a b:Nat} (h:Nat.beq a b = false):¬ a = b:=fun e=>by subst e;rw [Nat.beq_refl] at h;cases h
theorem lt_nblt {a b:Nat} (h:a < b):Nat.blt a b = true:=Nat.ble_eq_true_of_le h
theorem nblt_lt {a b:Nat} (h:Nat.blt a b = true):a < b:=Nat.le_of_ble_eq_true h
def get:Fr→Nat→Option Value
 | [],_=>none
 | (t,v) :: r,s=>bif Nat.beq t s then some v else get r s
structure Sh where
 n:Nat
 ds:List Deferred
 r:Option Nat
def FF (r:Option Nat):Fence:={ fn:=fun _=>True,depth:=none,alive:=false,round:=r }
structure Holds (n:Sh) (a:Act) (fr:Fr):Prop where
 size:a.tmps.size = n.n
 defers:a.defers = n.ds
 slot:∀ t v,get fr t = some v→a.tmps.getD t undef = v
def ev (fr:Fr):Operand→Option Value
 | .tmp t=>get fr t
 | .const v=>some v
 | .global g=>some (.pointer (some ⟨g,0,none⟩))
 | .func f=>some (.func (.func f) #[] #[])
def evs (fr:Fr):List Operand→Option (List Value)
 | []=>some []
 | x :: r=>match ev fr x with
  | some v=>match evs fr r with
   | some vs=>some (v :: vs)
   | none=>none
  | none=>none
theorem Holds.ev {n:Sh} {a:Act} {fr:Fr} (h:Holds n a fr) {x:Operand} {v:Value} (e:ev fr x = some v):a.eval x = v:=by
 cases x with
 | tmp t=>exact h.slot t v e
 | const u=>simpa [Art.ev,Act.eval] using e
 | global g=>simpa [Art.ev,Act.eval] using e
 | func f=>simpa [Art.ev,Act.eval] using e
theorem Holds.evs {n:Sh} {a:Act} {fr:Fr} (h:Holds n a fr):∀ {xs:List Operand} {vs:List Value},evs fr xs = some vs→xs.map a.eval = vs
 | [],vs,e=>by simp [Art.evs] at e;simp [e]
 | x :: r,vs,e=>by
  simp only [Art.evs] at e
  split at e
  ·rename_i v hv
   split at e
   ·rename_i us hus
    simp only [Option.some.injEq] at e
    subst e
    simp [h.ev hv,Holds.evs h hus]
   ·cases e
  ·cases e
theorem Holds.put {n:Sh} {a:Act} {fr:Fr} (h:Holds n a fr) {d:Nat} (hd:Nat.blt d n.n = true) (v:Value):Holds n (a.put (some d) v) ((d,v) :: fr):=by
 have hd':d < n.n:=nblt_lt hd
 refine ⟨by simp [Act.put,h.size],by simp [Act.put,h.defers],fun t u hu=>?_⟩
 simp only [get] at hu
 by_cases hdt:d = t
 ·subst hdt
  simp at hu
  subst hu
  have hs:=h.size
  simp [Act.put,Array.getD_eq_getD_getElem?,Array.getElem?_setIfInBounds,hs,hd']
 ·have:(Nat.beq d t) = false:=nbeq_f hdt
  simp only [this,cond_false] at hu
  have:=h.slot t u hu
  simpa [Act.put,Array.getD_eq_getD_getElem?,Array.getElem?_setIfInBounds,hdt] using this
def Sub (fr' fr:Fr):Prop:=∀ t v,get fr' t = some v→get fr t = some v
theorem Sub.nil {fr:Fr}:Sub [] fr:=fun _ _ h=>by simp [get] at h
theorem Sub.cons {fr r:Fr} {t:Nat} {v v':Value} (h:get fr t = some v') (e:v' = v) (hr:Sub r fr):Sub ((t,v) :: r) fr:=by
 intro s u hs
 simp only [get] at hs
 by_cases hts:t = s
 ·subst hts;simp at hs;subst hs;rw [h,e]
 ·have:(Nat.beq t s) = false:=nbeq_f hts
  simp only [this,cond_false] at hs
  exact hr s u hs
theorem Holds.sub {n:Sh} {a:Act} {fr fr':Fr} (h:Holds n a fr) (s:Sub fr' fr):Holds n a fr':=
 ⟨h.size,h.defers,fun t v e=>h.slot t v (s t v e)⟩
inductive K where
 | code (y:Code)
 | block (id:Nat)
 | loop (L:Act→World→Prop)
def den (P:Program) (r:Option Nat) (Q0:Exit→Act→World→Prop):List K→Exit→Act→World→Prop
 | []=>Q0
 | .code y :: s=>Exit.then (y.wpIn (FF r) 0 P (den P r Q0 s)) (den P r Q0 s)
 | .block id :: s=>Exit.inBlock id (den P r Q0 s)
 | .loop L :: s=>Exit.then L (den P r Q0 s)
def lk {α:Type}:List (Nat × α)→Nat→Option α
 | [],_=>none
 | (t,v) :: r,s=>bif Nat.beq t s then some v else lk r s
theorem lk_mem {α:Type}:∀ {l:List (Nat × α)} {s:Nat} {x:α},lk l s = some x→(s,x) ∈ l
 | [],_,_,h=>by simp [lk] at h
 | (pt,pv) :: r,s,x,h=>by
  simp only [lk] at h
  by_cases hp:pt = s
  ·subst hp;simp at h;subst h;simp
  ·have:(Nat.beq pt s) = false:=nbeq_f hp
   simp only [this,cond_false] at h
   exact List.mem_cons_of_mem _ (lk_mem h)
structure Env (P:Program) where
 und:List (Nat × TypeDesc)
 und_ok:∀ p ∈ und,P.underlying p.1 = some p.2
 inf:List (Nat × (Value × Nat × Nat))
 inf_ok:∀ p ∈ inf,(P.info? p.1).map (fun i=>(i.zero,i.size,i.bytes)) = some (some p.2.1,p.2.2.1,p.2.2.2)
 mixed:P.follows .mixedOrders = true
theorem Env.un {P:Program} (E:Env P) {t:Nat} {d:TypeDesc} (h:lk E.und t = some d):P.underlying t = some d:=E.und_ok _ (lk_mem h)
theorem Env.info {P:Program} (E:Env P) {t:Nat} {z:Value} {s b:Nat} (h:lk E.inf t = some (z,s,b)):∃ i,P.info? t = some i∧i.zero = some z∧i.size = s∧i.bytes = b:=
 info_parts (E.inf_ok _ (lk_mem h))
section
structure SC {P:Program} (_E:Env P) (n:Sh) (Q0:Exit→Act→World→Prop) (s:List K) (c:Code) (fr:Fr) (w:World):Prop where
 run:∀ a,Holds n a fr→c.wpIn (FF n.r) 0 P (den P n.r Q0 s) a w
structure SX {P:Program} (_E:Env P) (n:Sh) (Q0:Exit→Act→World→Prop) (s:List K) (e:Exit) (fr:Fr) (w:World):Prop where
 run:∀ a,Holds n a fr→den P n.r Q0 s e a w
structure SO {P:Program} (_E:Env P) (n:Sh) (Q0:Exit→Act→World→Prop) (s:List K) (ops:Array Oper) (l:List Oper) (fr:Fr) (w:World):Prop where
 run:∀ a,Holds n a fr→wpListIn (FF n.r) 0 P ops (den P n.r Q0 s) l a w
structure SQ {P:Program} (_E:Env P) (n:Sh) (Q0:Exit→Act→World→Prop) (s:List K) (C:World→Prop) (ops:Array Oper) (l:List Oper) (fr:Fr):Prop where
 run:∀ a,Holds n a fr→wpQuiet P ops C (fun a'=>∀ w',C w'→den P n.r Q0 s .normal a' w') l a
end
/-! ### Drawn regions that are quiet, in whatever frame -/
theorem callsFF {P:Program} {r:Option Nat} {k:Nat} {f:FuncId} {args:Array Value} {w:World} {R:Ending→World→Prop} (h:Calls P f args w R):CallsIn (FF r) k P f args w R:=(callsIn_wide (n:=k)).2 h
theorem calls_of_FF {P:Program} {r:Option Nat} {k:Nat} {f:FuncId} {args:Array Value} {w:World} {R:Ending→World→Prop} (h:CallsIn (FF r) k P f args w R):Calls P f args w R:=(callsIn_wide (n:=k)).1 h
section
variable {P:Program} {ops:Array Oper} {md:Region.Mode} {C:World→Prop} {r:Option Nat}
theorem semAt_run {o:Oper} {a:Act} {w w':World} {x:Next} (h:(execOp a.eval o).run P w = .ok x w') (hx:∀ d,x ≠ .defer d):(o.semAt r a.eval).run P w = .ok x w':=by
 by_cases hd:∃ c,o.op = .defer c
 ·obtain ⟨c,hc⟩:=hd
  exfalso
  simp only [execOp,hc] at h
  simp only [Sem.run_bind] at h
  cases hr:(resolve a.eval c o.type).run P w with
  | ok d w1=>rw [hr] at h;simp only [Result.andThen_ok,Sem.run_pure,Result.ok.injEq] at h;exact hx d h.1.symm
  | halt e w1=>rw [hr] at h;simp at h
 ·rw [Oper.semAt_eq r a.eval o (fun c hc=>hd ⟨c,hc⟩)];exact h
theorem wpIn_of_quiet {o:Oper} {a:Act} {K:Act→Prop} {K':Act→World→Prop} {Q':Exit→Act→World→Prop} {w:World} (hw:C w) (h:∀ a w',C w'→K a→K' a w') (hh:o.quiet P a C K):o.wpIn (FF r) 0 P a w K' Q':=by
 obtain ⟨v,h1,h2⟩:=hh
 have h3:=h1 w hw
 refine ⟨fun _ _=>trivial,?_⟩
 unfold Oper.quietAt at h3
 cases hr:(execOp a.eval o).run P w with
 | ok x w'=>
  rw [hr] at h3
  have hx:∀ d,x ≠ .defer d:=fun d e=>by subst e;exact h3
  rw [semAt_run hr hx]
  cases x <;> simp only [Oper.quietUpon] at h3 <;> simp only [Oper.uponIn]
  case value u=>
   obtain ⟨e1,e2⟩:=h3
   rw [e1,e2]
   exact h _ _ hw h2
  case skip=>
   obtain ⟨e1,e2⟩:=h3
   rw [e1,← e2]
   exact h _ _ hw h2
  case enter f args=>
   obtain ⟨e1,hc⟩:=h3
   rw [e1]
   refine ⟨fun e=>(by cases e),?_⟩
   exact callsFF (hc.mono fun e w'' ⟨he,hw''⟩=>by subst he;exact h _ _ hw'' h2)
 | halt x w'=>rw [hr] at h3;simp only [Oper.quietUpon] at h3
theorem wpOpIn_of_qOp {i:Nat} {a:Act} {K:Act→Prop} {K':Act→World→Prop} {Q':Exit→Act→World→Prop} {w:World} (hC:C w) (h:∀ a w',C w'→K a→K' a w') (hh:qOp P ops C i K a):wpOpIn (FF r) 0 P ops Q' i K' a w:=by
 unfold qOp at hh
 unfold wpOpIn
 split
 ·rename_i ho;simp only [ho] at hh;exact h _ _ hC hh
 ·rename_i o ho
  simp only [ho] at hh
  split
  ·rename_i hw;simp only [hw,if_true] at hh;exact wpIn_of_quiet hC h hh
  ·rename_i hw;simp only [hw] at hh;exact ⟨fun _ _=>trivial,h _ _ hC hh⟩
theorem wpAnyIn_of_quiet {Q:Act→Prop} {Q':Exit→Act→World→Prop} (hQ:∀ a w,C w→Q a→Q' .normal a w):∀ (fuel:Nat) (listed:Array Bool) (a:Act) (w:World),C w →
  wpAnyQ P md ops C Q fuel listed a→wpAnyIn (FF r) 0 P md ops Q' fuel listed a w
 | 0,_,_,_,hw,h=>⟨h.1,hQ _ _ hw h.2⟩
 | fuel + 1,_,_,_,hw,h=>⟨fun h0=>hQ _ _ hw (h.1 h0),fun i hi=>wpOpIn_of_qOp hw (fun a' w' hw'=>wpAnyIn_of_quiet hQ fuel _ a' w' hw') (h.2 i hi)⟩
theorem wpIn_region_quietF {id:Nat} {Q:Exit→Act→World→Prop} {a:Act} {w:World} (hm:P.follows .mixedOrders = true) (hB:Region.lexB .any ops = true) (hC:C { w with drawn:=w.drawn + 1 })
  (h:wpQuiet P ops C (fun a'=>∀ w',C w'→Q .normal a' w') ops.toList a):(Code.region id ops true).wpIn (FF r) 0 P Q a w:=by
 simp only [Region.lexB,Bool.and_eq_true] at hB
 refine wpIn_region_any hm (wpAnyIn_of_quiet (Q:=fun a'=>∀ w',C w'→Q .normal a' w') (fun _ w' hw' h=>h w' hw') _ _ _ _ hC ?_)
 have:=wpAnyQ_lex (C:=C) (md:=.any) hB.1 ops.toList 0 (Array.replicate ops.size false) a (by simp) (by simpa using hB.2) h
 simpa using this
end
section
variable {P:Program} {E:Env P} {n:Sh} {Q0:Exit→Act→World→Prop} {s:List K} {fr:Fr} {w:World}
theorem SC_seq {a b:Code} (h:SC E n Q0 (.code b :: s) a fr w):SC E n Q0 s (.seq a b) fr w:=⟨fun x hx=>wpIn_seq (h.run x hx)⟩
theorem SC_skip (h:SX E n Q0 s .normal fr w):SC E n Q0 s .skip fr w:=⟨fun x hx=>wpIn_skip (h.run x hx)⟩
theorem SC_ret (h:SX E n Q0 s .ret fr w):SC E n Q0 s .ret fr w:=⟨fun x hx=>wpIn_ret (h.run x hx)⟩
theorem SC_exit {id:Nat} (h:SX E n Q0 s (.exit id) fr w):SC E n Q0 s (.exit id) fr w:=⟨fun x hx=>wpIn_exit (h.run x hx)⟩
theorem SC_block {id:Nat} {c:Code} (h:SC E n Q0 (.block id :: s) c fr w):SC E n Q0 s (.block id c) fr w:=⟨fun x hx=>wpIn_block (h.run x hx)⟩
theorem SC_cond_t {c:Operand} {x y:Code} (hc:ev fr c = some (.bool true)) (h:SC E n Q0 s x fr w):SC E n Q0 s (.cond c x y) fr w:=
⟨fun a ha=>wpIn_cond_true (ha.ev hc) (h.run a ha)⟩
theorem SC_cond_f {c:Operand} {x y:Code} (hc:ev fr c = some (.bool false)) (h:SC E n Q0 s y fr w):SC E n Q0 s (.cond c x y) fr w:=
⟨fun a ha=>wpIn_cond_false (ha.ev hc) (h.run a ha)⟩
theorem SC_cond {c:Operand} {x y:Code} {t:Bool} (hc:ev fr c = some (.bool t)) (h1:t = true→SC E n Q0 s x fr w) (h2:t = false→SC E n Q0 s y fr w) :
  SC E n Q0 s (.cond c x y) fr w:=
⟨fun a ha=>wpIn_cond_split (ha.ev hc) (fun h=>(h1 h).run a ha) (fun h=>(h2 h).run a ha)⟩
theorem SC_region {id:Nat} {l:List Oper} (h:SO E n Q0 s l.toArray l fr w):SC E n Q0 s (.region id l.toArray false) fr w:=
⟨fun a ha=>wpIn_region_lit (h.run a ha)⟩
theorem SC_regionQ {id:Nat} {l:List Oper} (C:World→Prop) (hB:Region.lexB .any l.toArray = true) (hC:C { w with drawn:=w.drawn + 1 })
  (h:SQ E n Q0 s C l.toArray l fr):SC E n Q0 s (.region id l.toArray true) fr w:=
⟨fun a ha=>wpIn_region_quietF E.mixed hB hC (by simpa using h.run a ha)⟩
theorem SC_sub {c:Code} (fr':Fr) (hs:Sub fr' fr) (h:SC E n Q0 s c fr' w):SC E n Q0 s c fr w:=⟨fun a ha=>h.run a (ha.sub hs)⟩
theorem SX_code {y:Code} (h:SC E n Q0 s y fr w):SX E n Q0 (.code y :: s) .normal fr w:=⟨fun a ha=>h.run a ha⟩
theorem SX_code_exit {y:Code} {id:Nat} (h:SX E n Q0 s (.exit id) fr w):SX E n Q0 (.code y :: s) (.exit id) fr w:=⟨fun a ha=>h.run a ha⟩
theorem SX_code_ret {y:Code} (h:SX E n Q0 s .ret fr w):SX E n Q0 (.code y :: s) .ret fr w:=⟨fun a ha=>h.run a ha⟩
theorem SX_block {id:Nat} (h:SX E n Q0 s .normal fr w):SX E n Q0 (.block id :: s) .normal fr w:=⟨fun a ha=>h.run a ha⟩
theorem SX_block_hit {id:Nat} (h:SX E n Q0 s .normal fr w):SX E n Q0 (.block id :: s) (.exit id) fr w:=⟨fun a ha=>by
 simp only [den,Exit.inBlock,if_true];exact h.run a ha⟩
theorem SX_block_miss {id id':Nat} (hne:Nat.beq id' id = false) (h:SX E n Q0 s (.exit id') fr w):SX E n Q0 (.block id :: s) (.exit id') fr w:=⟨fun a ha=>by
 have:¬ id' = id:=nbeq_ne hne
 simp only [den,Exit.inBlock,this,if_false];exact h.run a ha⟩
theorem SX_block_ret {id:Nat} (h:SX E n Q0 s .ret fr w):SX E n Q0 (.block id :: s) .ret fr w:=⟨fun a ha=>h.run a ha⟩
theorem SX_loop_exit {L:Act→World→Prop} {id:Nat} (h:SX E n Q0 s (.exit id) fr w):SX E n Q0 (.loop L :: s) (.exit id) fr w:=⟨fun a ha=>h.run a ha⟩
theorem SX_loop_ret {L:Act→World→Prop} (h:SX E n Q0 s .ret fr w):SX E n Q0 (.loop L :: s) .ret fr w:=⟨fun a ha=>h.run a ha⟩
def LoopK (n:Sh) {ι:Type} (inv:ι→Fr) (I:ι→World→Prop) (μ:ι→Nat) (i:ι) (a:Act) (w:World):Prop:=
 ∃ i',I i' w∧Holds n a (inv i')∧μ i' < μ i
theorem SC_loop {c:Code} {ι:Type} (inv:ι→Fr) (I:ι→World→Prop) (μ:ι→Nat) (i0:ι) (h0:I i0 w) (hs:Sub (inv i0) fr)
  (round:∀ i w,I i w→SC E n Q0 (.loop (LoopK n inv I μ i) :: s) c (inv i) w):SC E n Q0 s (.loop c) fr w:=by
 refine ⟨fun a ha b k cs hro hb hr=>?_⟩
 have key:∀ m i a w,μ i = m→I i w→Holds n a (inv i) →
   ∃ e a' w',den P n.r Q0 s e a' w'∧ArrivesIn (Machine.fenced P (FF n.r)) P (lone (b.atR a (.code c :: .inLoop c :: k)) cs w) b k cs e a' w':=by
  intro m
  induction m using Nat.strongRecOn with
  | _ m ih=>
   intro i a w hm hI hh
   obtain ⟨e,a₁,w₁,hq,harr⟩:=(round i w hI).run a hh b (.inLoop c :: k) cs hro hb hr
   cases e with
   | normal=>
    obtain ⟨i',hI',hh',hlt⟩:=hq
    obtain ⟨e₂,a₂,w₂,hq₂,harr₂⟩:=ih (μ i') (hm ▸ hlt) i' a₁ w₁ rfl hI' hh'
    exact ⟨e₂,a₂,w₂,hq₂,.of_steps (StepsIn.trans harr (.one (fenced_calm hb hr rfl) stepR_inLoop)) harr₂⟩
   | exit id=>exact ⟨_,a₁,w₁,hq,.pass (x:=.inLoop c) rfl (fun _ _=>.inl (by simp)) harr⟩
   | goto l=>exact ⟨_,a₁,w₁,hq,.pass (x:=.inLoop c) rfl (fun _ _=>.inl (by simp)) harr⟩
   | ret=>exact ⟨_,a₁,w₁,hq,.pass (x:=.inLoop c) rfl (fun _ _=>.inl (by simp)) harr⟩
   | panic ch=>exact ⟨_,a₁,w₁,hq,.pass (x:=.inLoop c) rfl (fun _ _=>.inl (by simp)) harr⟩
   | outgrown=>exact ⟨_,a₁,w₁,hq,.pass (x:=.inLoop c) rfl (fun _ _=>.inl (by simp)) harr⟩
 obtain ⟨e,a',w',hq,harr⟩:=key _ i0 a w rfl h0 (ha.sub hs)
 exact ⟨e,a',w',hq,.of_steps (.one (fenced_calm hb hr rfl) stepR_loop) harr⟩
/-! ### Operations -/
theorem SO_nil {ops:Array Oper} (h:SX E n Q0 s .normal fr w):SO E n Q0 s ops [] fr w:=⟨fun a ha=>h.run a ha⟩
structure OpV (P:Program) (n:Sh) (fr:Fr) (o:Op) (ty:TypeId) (w:World) (v:Value) (w':World):Prop where
 run:∀ a,Holds n a fr→∀ dst pos after g,(execOp a.eval ⟨dst,o,ty,pos,after,g⟩).run P w = .ok (.value v) w'
structure OpU (P:Program) (n:Sh) (fr:Fr) (o:Op) (ty:TypeId) (w:World) (w':World):Prop where
 run:∀ a,Holds n a fr→∀ dst pos after g,(execOp a.eval ⟨dst,o,ty,pos,after,g⟩).run P w = .ok .skip w'
variable {ops:Array Oper} {rest:List Oper} {d:Nat} {o:Op} {ty:TypeId} {pos:String} {after:Array Edge} {w':World} {v:Value}
theorem SO_v (hd:Nat.blt d n.n = true) (hr:OpV P n fr o ty w v w') (h:SO E n Q0 s ops rest ((d,v) :: fr) w') :
  SO E n Q0 s ops (⟨some d,o,ty,pos,after,none⟩ :: rest) fr w:=⟨fun a ha=>
 wpListIn_plain rfl fun K hK=>⟨fun _ _=>trivial,by rw [semAt_run (hr.run a ha _ _ _ _) (fun _ e=>by cases e)];exact hK _ _ (h.run _ (ha.put hd v))⟩⟩
theorem SO_u (hr:OpU P n fr o ty w w') (h:SO E n Q0 s ops rest fr w') :
  SO E n Q0 s ops (⟨none,o,ty,pos,after,none⟩ :: rest) fr w:=⟨fun a ha=>
 wpListIn_plain rfl fun K hK=>⟨fun _ _=>trivial,by rw [semAt_run (hr.run a ha _ _ _ _) (fun _ e=>by cases e)];exact hK _ _ (h.run _ ha)⟩⟩
theorem yielded_of {a:Act} (ha:Holds n a fr) {j dj:Nat} {b:Bool} (hd:(ops[j]?).bind (·.dst) = some dj) (hg:get fr dj = some (.bool b)) (hlt:Nat.blt dj n.n = true) :
  yielded ops a.tmps j = some b:=by
 have hlt':dj < n.n:=nblt_lt hlt
 have h1:=ha.slot dj _ hg
 have hs:=ha.size
 unfold yielded
 rw [hd]
 simp only [Option.bind_some]
 have:a.tmps[dj]? = some (.bool b):=by
  rw [Array.getD_eq_getD_getElem?] at h1
  have hb:a.tmps[dj]? = some a.tmps[dj]:=Array.getElem?_eq_getElem (by omega)
  rw [hb] at h1 ⊢
  simpa using h1
 rw [this]
theorem yielded_u {a:Act} (ha:Holds n a fr) {j dj:Nat} (hd:(ops[j]?).bind (·.dst) = some dj) (hg:get fr dj = some undef) (hlt:Nat.blt dj n.n = true) :
  yielded ops a.tmps j = none:=by
 have hlt':dj < n.n:=nblt_lt hlt
 have h1:=ha.slot dj _ hg
 have hs:=ha.size
 unfold yielded
 rw [hd]
 simp only [Option.bind_some]
 have:a.tmps[dj]? = some undef:=by
  rw [Array.getD_eq_getD_getElem?] at h1
  have hb:a.tmps[dj]? = some a.tmps[dj]:=Array.getElem?_eq_getElem (by omega)
  rw [hb] at h1 ⊢
  simpa using h1
 rw [this]
 rfl
theorem SO_nu {dd j dj:Nat} {b':Bool} (hd:(ops[j]?).bind (·.dst) = some dj) (hg:get fr dj = some undef) (hlt:Nat.blt dj n.n = true) (hdd:Nat.blt dd n.n = true)
  (h:SO E n Q0 s ops rest ((dd,undef) :: fr) w):SO E n Q0 s ops (⟨some dd,o,ty,pos,after,some (j,b')⟩ :: rest) fr w:=⟨fun a ha=>by
 have hy:=yielded_u ha hd hg hlt
 simp only [wpListIn,Region.wanted,hy]
 have:((none:Option Bool) == some b') = false:=by cases b' <;> rfl
 simp only [this,Bool.false_eq_true,if_false]
 exact ⟨fun _ _=>trivial,h.run _ (ha.put hdd undef)⟩⟩
theorem SO_yes {dst:Option Nat} {j dj:Nat} {b:Bool} (hd:(ops[j]?).bind (·.dst) = some dj) (hg:get fr dj = some (.bool b)) (hlt:Nat.blt dj n.n = true)
  (h:SO E n Q0 s ops (⟨dst,o,ty,pos,after,none⟩ :: rest) fr w):SO E n Q0 s ops (⟨dst,o,ty,pos,after,some (j,b)⟩ :: rest) fr w:=⟨fun a ha=>by
 have hy:=yielded_of ha hd hg hlt
 have:=h.run a ha
 simp only [wpListIn,Region.wanted,if_true] at this
 simp only [wpListIn,Region.wanted,hy,beq_self_eq_true,if_true]
 exact this⟩
theorem SO_no {dd j dj:Nat} {b b':Bool} (hd:(ops[j]?).bind (·.dst) = some dj) (hg:get fr dj = some (.bool b)) (hlt:Nat.blt dj n.n = true) (hb:b = !b') (hdd:Nat.blt dd n.n = true)
  (h:SO E n Q0 s ops rest ((dd,undef) :: fr) w):SO E n Q0 s ops (⟨some dd,o,ty,pos,after,some (j,b')⟩ :: rest) fr w:=⟨fun a ha=>by
 have hy:=yielded_of ha hd hg hlt
 subst hb
 simp only [wpListIn,Region.wanted,hy]
 have:(some (!b') == some b') = false:=by cases b' <;> rfl
 simp only [this,Bool.false_eq_true,if_false]
 exact ⟨fun _ _=>trivial,h.run _ (ha.put hdd undef)⟩⟩
theorem SO_split {l:List Oper} {t:Nat} {b:Bool} (hg:get fr t = some (.bool b))
  (h1:b = true→SO E n Q0 s ops l ((t,.bool true) :: fr) w) (h2:b = false→SO E n Q0 s ops l ((t,.bool false) :: fr) w):SO E n Q0 s ops l fr w:=⟨fun a ha=>by
 cases b with
 | true=>
  refine (h1 rfl).run a ⟨ha.size,ha.defers,fun u x hx=>?_⟩
  simp only [get] at hx
  by_cases htu:t = u
  ·subst htu;simp at hx;subst hx;exact ha.slot _ _ hg
  ·have:(Nat.beq t u) = false:=nbeq_f htu
   simp only [this,cond_false] at hx
   exact ha.slot _ _ hx
 | false=>
  refine (h2 rfl).run a ⟨ha.size,ha.defers,fun u x hx=>?_⟩
  simp only [get] at hx
  by_cases htu:t = u
  ·subst htu;simp at hx;subst hx;exact ha.slot _ _ hg
  ·have:(Nat.beq t u) = false:=nbeq_f htu
   simp only [this,cond_false] at hx
   exact ha.slot _ _ hx⟩
/-! ### Quiet lists -/
variable {C:World→Prop}
theorem SQ_nil (h:∀ w',C w'→SX E n Q0 s .normal fr w'):SQ E n Q0 s C ops [] fr:=⟨fun a ha=>wpQuiet_nil fun w' hw'=>(h w' hw').run a ha⟩
theorem SQ_v (hd:Nat.blt d n.n = true) (hr:∀ w',C w'→OpV P n fr o ty w' v w') (h:SQ E n Q0 s C ops rest ((d,v) :: fr)) :
  SQ E n Q0 s C ops (⟨some d,o,ty,pos,after,none⟩ :: rest) fr:=⟨fun a ha=>by
 refine wpQuiet_step fun K hK=>?_
 simp only [Region.wanted,if_true]
 exact ⟨v,fun w' hw'=>by unfold Oper.quietAt;rw [(hr w' hw').run a ha];exact ⟨rfl,rfl⟩,hK _ (h.run _ (ha.put hd v))⟩⟩
theorem SQ_yes {dst:Option Nat} {j dj:Nat} {b:Bool} (hd:(ops[j]?).bind (·.dst) = some dj) (hg:get fr dj = some (.bool b)) (hlt:Nat.blt dj n.n = true)
  (h:SQ E n Q0 s C ops (⟨dst,o,ty,pos,after,none⟩ :: rest) fr):SQ E n Q0 s C ops (⟨dst,o,ty,pos,after,some (j,b)⟩ :: rest) fr:=⟨fun a ha=>by
 have hy:=yielded_of ha hd hg hlt
 have:=h.run a ha
 simp only [wpQuiet,Region.wanted,if_true] at this
 simp only [wpQuiet,Region.wanted,hy,beq_self_eq_true,if_true]
 exact this⟩
theorem SQ_no {dd j dj:Nat} {b b':Bool} (hd:(ops[j]?).bind (·.dst) = some dj) (hg:get fr dj = some (.bool b)) (hlt:Nat.blt dj n.n = true) (hb:b = !b') (hdd:Nat.blt dd n.n = true)
  (h:SQ E n Q0 s C ops rest ((dd,undef) :: fr)):SQ E n Q0 s C ops (⟨some dd,o,ty,pos,after,some (j,b')⟩ :: rest) fr:=⟨fun a ha=>by
 have hy:=yielded_of ha hd hg hlt
 subst hb
 simp only [wpQuiet,Region.wanted,hy]
 have:(some (!b') == some b') = false:=by cases b' <;> rfl
 simp only [this,Bool.false_eq_true,if_false]
 exact h.run _ (ha.put hdd undef)⟩
theorem SQ_nu {dd j dj:Nat} {b':Bool} (hd:(ops[j]?).bind (·.dst) = some dj) (hg:get fr dj = some undef) (hlt:Nat.blt dj n.n = true) (hdd:Nat.blt dd n.n = true)
  (h:SQ E n Q0 s C ops rest ((dd,undef) :: fr)):SQ E n Q0 s C ops (⟨some dd,o,ty,pos,after,some (j,b')⟩ :: rest) fr:=⟨fun a ha=>by
 have hy:=yielded_u ha hd hg hlt
 simp only [wpQuiet,Region.wanted,hy]
 have:((none:Option Bool) == some b') = false:=by cases b' <;> rfl
 simp only [this,Bool.false_eq_true,if_false]
 exact h.run _ (ha.put hdd undef)⟩
theorem SQ_split {l:List Oper} {t:Nat} {b:Bool} (hg:get fr t = some (.bool b))
  (h1:b = true→SQ E n Q0 s C ops l ((t,.bool true) :: fr)) (h2:b = false→SQ E n Q0 s C ops l ((t,.bool false) :: fr)):SQ E n Q0 s C ops l fr:=⟨fun a ha=>by
 cases b with
 | true=>
  refine (h1 rfl).run a ⟨ha.size,ha.defers,fun u x hx=>?_⟩
  simp only [get] at hx
  by_cases htu:t = u
  ·subst htu;simp at hx;subst hx;exact ha.slot _ _ hg
  ·have:(Nat.beq t u) = false:=nbeq_f htu
   simp only [this,cond_false] at hx
   exact ha.slot _ _ hx
 | false=>
  refine (h2 rfl).run a ⟨ha.size,ha.defers,fun u x hx=>?_⟩
  simp only [get] at hx
  by_cases htu:t = u
  ·subst htu;simp at hx;subst hx;exact ha.slot _ _ hg
  ·have:(Nat.beq t u) = false:=nbeq_f htu
   simp only [this,cond_false] at hx
   exact ha.slot _ _ hx⟩
theorem SQ_gsplit {dst:Option Nat} {j dj:Nat} {b b':Bool} (hd:(ops[j]?).bind (·.dst) = some dj) (hg:get fr dj = some (.bool b))
  (h1:b = true→SQ E n Q0 s C ops (⟨dst,o,ty,pos,after,some (j,b')⟩ :: rest) ((dj,.bool true) :: fr))
  (h2:b = false→SQ E n Q0 s C ops (⟨dst,o,ty,pos,after,some (j,b')⟩ :: rest) ((dj,.bool false) :: fr)):SQ E n Q0 s C ops (⟨dst,o,ty,pos,after,some (j,b')⟩ :: rest) fr:=SQ_split hg h1 h2
/-! ### Which operation stands first -/
section guards
variable {dst:Option Nat} {g:Option (Nat × Bool)} {x y:Operand} {t t':TypeId}
end guards
/-! ### Calls of Go functions -/
def Callable (P:Program) (f:FuncId):Prop:=∃ fn,P.funcs[f]? = some fn∧(fn.name == "runtime.NumGoroutine") = false∧fn.body.isNone = false
structure Fn (P:Program) (f:FuncId) (args:List Value) (w:World) (R:Value→World→Prop):Prop where
 can:Callable P f
 calls:Calls P f args.toArray w fun e w'=>∃ v,e = .returned v∧R v w'
theorem Fn.mono {f:FuncId} {args:List Value} {R R':Value→World→Prop} (h:Fn P f args w R) (hr:∀ v w',R v w'→R' v w'):Fn P f args w R':=
 ⟨h.can,h.calls.mono fun _ _ ⟨v,he,hv⟩=>⟨v,he,hr _ _ hv⟩⟩
theorem run_callFunc_fn {f:FuncId} (hc:Callable P f) (args:Array Value) (w:World):(callFunc f args).run P w = .ok (.enter f args) w:=by
 obtain ⟨fn,h1,h2,h3⟩:=hc
 have h2':¬ fn.name = "runtime.NumGoroutine" := by simpa using h2
 have h3':¬ fn.body = none:=fun e=>by simp [e] at h3
 simp [callFunc,program,h1,h2',h3',Sem.run]
theorem run_call {f:FuncId} {a:Act} {xs:List Operand} {ats:Array TypeId} {vs:List Value} (hv:xs.map a.eval = vs) (hc:Callable P f) (dst:Option Nat) (g:Option (Nat × Bool)) :
  (execOp a.eval ⟨dst,.call ⟨.value (.func f),xs.toArray,ats⟩,ty,pos,after,g⟩).run P w = .ok (.enter f vs.toArray) w:=by
 have h1:=run_callFunc_fn hc vs.toArray w
 have h2:(Array.map a.eval xs.toArray) = vs.toArray:=by simp [hv]
 have h3:vs.toArray ++ #[] = vs.toArray:=by simp
 simp only [execOp,resolve,h2]
 show (Sem.run P ((Deferred.ofValue (.func (.func f) #[] #[]) vs.toArray).bind fun d=>invoke d.target d.args) w) = _
 simp only [Deferred.ofValue]
 simp [invoke,h1,Sem.bind,bind,pure]
def putFr (dst:Option Nat) (v:Value) (fr:Fr):Fr:=match dst with
 | some d=>(d,v) :: fr
 | none=>fr
theorem SO_enter {f:FuncId} {vs:List Value} {dst:Option Nat} {R:Value→World→Prop} (hrun:∀ a,Holds n a fr→(execOp a.eval ⟨dst,o,ty,pos,after,none⟩).run P w = .ok (.enter f vs.toArray) w) (hf:Fn P f vs w R)
  (h:∀ v w',R v w'→SO E n Q0 s ops rest (putFr dst v fr) w')
  (hd:∀ d,dst = some d→Nat.blt d n.n = true):SO E n Q0 s ops (⟨dst,o,ty,pos,after,none⟩ :: rest) fr w:=⟨fun a ha=>
 wpListIn_plain rfl fun K hK=>⟨fun _ _=>trivial,by
  rw [semAt_run (hrun a ha) (fun _ e=>by cases e)]
  simp only [Oper.uponIn]
  refine ⟨fun e=>(by cases e),callsFF (hf.calls.mono fun e w' ⟨v,he,hR⟩=>?_)⟩
  subst he
  have hp:Holds n (a.put dst v) (putFr dst v fr):=by
   cases dst with
   | none=>exact ha
   | some d=>exact ha.put (hd d rfl) v
  exact hK _ _ ((h v w' hR).run _ hp)⟩⟩
theorem SO_call {f:FuncId} {xs:List Operand} {ats:Array TypeId} {vs:List Value} {R:Value→World→Prop} (hv:evs fr xs = some vs) (hd:Nat.blt d n.n = true) (hf:Fn P f vs w R)
  (h:∀ v w',R v w'→SO E n Q0 s ops rest ((d,v) :: fr) w') :
  SO E n Q0 s ops (⟨some d,.call ⟨.value (.func f),xs.toArray,ats⟩,ty,pos,after,none⟩ :: rest) fr w:=
 SO_enter (fun _ ha=>run_call (ha.evs hv) hf.can _ _) hf h (fun _ e=>by cases e;exact hd)
theorem run_callv {f:FuncId} {a:Act} {g:Operand} {cap:Array Value} {xs:List Operand} {ats:Array TypeId} {vs:List Value} (hg:a.eval g = .func (.func f) #[] cap) (hv:xs.map a.eval = vs) (hc:Callable P f) (dst:Option Nat) (gd:Option (Nat × Bool)) :
  (execOp a.eval ⟨dst,.call ⟨.value g,xs.toArray,ats⟩,ty,pos,after,gd⟩).run P w = .ok (.enter f (vs ++ cap.toList).toArray) w:=by
 have h1:=run_callFunc_fn hc (vs ++ cap.toList).toArray w
 have h2:(Array.map a.eval xs.toArray) = vs.toArray:=by simp [hv]
 have h3:vs.toArray ++ cap = (vs ++ cap.toList).toArray:=by simp
 simp only [execOp,resolve,h2,hg]
 show (Sem.run P ((Deferred.ofValue (.func (.func f) #[] cap) vs.toArray).bind fun d=>invoke d.target d.args) w) = _
 simp only [Deferred.ofValue]
 simp [invoke,h3,h1,Sem.bind,bind,pure]
theorem SO_callv {f:FuncId} {g:Operand} {cap:Array Value} {xs:List Operand} {ats:Array TypeId} {vs:List Value} {R:Value→World→Prop} (hg:ev fr g = some (.func (.func f) #[] cap)) (hv:evs fr xs = some vs) (hd:Nat.blt d n.n = true) (hf:Fn P f (vs ++ cap.toList) w R)
  (h:∀ v w',R v w'→SO E n Q0 s ops rest ((d,v) :: fr) w') :
  SO E n Q0 s ops (⟨some d,.call ⟨.value g,xs.toArray,ats⟩,ty,pos,after,none⟩ :: rest) fr w:=
 SO_enter (fun _ ha=>run_callv (ha.ev hg) (ha.evs hv) hf.can _ _) hf h (fun _ e=>by cases e;exact hd)
theorem SQ_call {f:FuncId} {xs:List Operand} {ats:Array TypeId} {vs:List Value} {v:Value} (hv:evs fr xs = some vs) (hd:Nat.blt d n.n = true)
  (hf:∀ w',C w'→Fn P f vs w' fun u w''=>u = v∧C w'') (h:SQ E n Q0 s C ops rest ((d,v) :: fr)) :
  SQ E n Q0 s C ops (⟨some d,.call ⟨.value (.func f),xs.toArray,ats⟩,ty,pos,after,none⟩ :: rest) fr:=⟨fun a ha=>by
 refine wpQuiet_step fun K hK=>?_
 simp only [Region.wanted,if_true]
 refine ⟨v,fun w' hw'=>?_,hK _ (h.run _ (ha.put hd v))⟩
 unfold Oper.quietAt
 rw [run_call (ha.evs hv) (hf w' hw').can]
 exact ⟨rfl,(hf w' hw').calls.mono fun e w'' ⟨u,he,hu,hC⟩=>⟨by rw [he,hu],hC⟩⟩⟩
/-! ### A function's own -/
def argFr:List Value→Nat→Fr
 | [],_=>[]
 | v :: r,i=>(i,v) :: argFr r (i + 1)
theorem get_argFr:∀ (l:List Value) (i t:Nat) (v:Value),get (argFr l i) t = some v→i ≤ t∧l[t - i]? = some v
 | [],_,_,_,h=>by simp [argFr,get] at h
 | u :: r,i,t,v,h=>by
  simp only [argFr,get] at h
  by_cases hit:i = t
  ·subst hit;simp at h;subst h;simp
  ·have:(Nat.beq i t) = false:=nbeq_f hit
   simp only [this,cond_false] at h
   obtain ⟨h1,h2⟩:=get_argFr r (i + 1) t v h
   refine ⟨by omega,?_⟩
   have:t - i = (t - (i + 1)) + 1:=by omega
   rw [this,List.getElem?_cons_succ];exact h2
theorem argFr_slot (args:List Value) (n:Nat):∀ t v,get (argFr args 0) t = some v→(args.toArray ++ Array.replicate (n - args.toArray.size) undef).getD t undef = v:=by
 intro t v ht
 obtain ⟨_,h2⟩:=get_argFr args 0 t v ht
 simp only [Nat.sub_zero] at h2
 have hlt:t < args.length:=by
  rcases Nat.lt_or_ge t args.length with h | h
  ·exact h
  ·rw [List.getElem?_eq_none h] at h2;cases h2
 simp only [Array.getD_eq_getD_getElem?]
 rw [Array.getElem?_append_left (by simpa using hlt)]
 simp [h2]
def RetP (R:Value→World→Prop):Ending→World→Prop:=fun e w'=>∃ v,e = .returned v∧R v w'
theorem Fn.enter {f:FuncId} {fn:Func} {c:Code} {args:List Value} {R:Value→World→Prop} (E:Env P) (n:Nat) (hf:P.funcs[f]? = some fn) (hnm:(fn.name == "runtime.NumGoroutine") = false) (hb:fn.body = some c)
  (hn:fn.ntmps = n) (hl:Nat.ble args.length n = true) (h:SC E ⟨n,[],none⟩ (bodyPost P fn (RetP R)) [] c (argFr args 0) w):Fn P f args w R:=by
 refine ⟨⟨fn,hf,hnm,by simp [hb]⟩,calls_of_FF (r:=none) (k:=0) (callsIn_of_wp hf hb trivial ?_)⟩
 subst hn
 have hl':args.length ≤ fn.ntmps:=Nat.le_of_ble_eq_true hl
 exact h.run _ ⟨by simp;omega,rfl,argFr_slot args fn.ntmps⟩
variable {R:Value→World→Prop} {fn:Func}
theorem SX_ret1 {t:Nat} (hds:n.ds = []) (hr:fn.results = #[.tmp t]) (hv:get fr t = some v) (h:R v w):SX E n (bodyPost P fn (RetP R)) [] .ret fr w:=⟨fun a ha=>
 bodyPost_ret (results_tmp hr a.tmps P w) (ha.defers.trans hds) ⟨v,by rw [ha.slot t v hv],h⟩⟩
theorem SX_ret0 (hds:n.ds = []) (hr:fn.results = #[]) (h:R (.tuple #[]) w):SX E n (bodyPost P fn (RetP R)) [] .ret fr w:=⟨fun a ha=>
 bodyPost_ret (results_none hr a.tmps P w) (ha.defers.trans hds) ⟨_,rfl,h⟩⟩
theorem SX_end0 (hds:n.ds = []) (hr:fn.results = #[]) (h:R (.tuple #[]) w):SX E n (bodyPost P fn (RetP R)) [] .normal fr w:=⟨fun a ha=>
 bodyPost_end (results_none hr a.tmps P w) (ha.defers.trans hds) ⟨_,rfl,h⟩⟩
theorem SX_ret2 {t u:Nat} {v1 v2:Value} (hds:n.ds = []) (hr:fn.results = #[.tmp t,.tmp u]) (h1:get fr t = some v1) (h2:get fr u = some v2) (h:R (.tuple #[v1,v2]) w) :
  SX E n (bodyPost P fn (RetP R)) [] .ret fr w:=⟨fun a ha=>
 bodyPost_ret (results_tmp2 hr a.tmps P w) (ha.defers.trans hds) ⟨_,by rw [ha.slot t v1 h1,ha.slot u v2 h2],h⟩⟩
theorem SX_ret3 {t u x:Nat} {v1 v2 v3:Value} (hds:n.ds = []) (hr:fn.results = #[.tmp t,.tmp u,.tmp x]) (h1:get fr t = some v1) (h2:get fr u = some v2) (h3:get fr x = some v3) (h:R (.tuple #[v1,v2,v3]) w) :
  SX E n (bodyPost P fn (RetP R)) [] .ret fr w:=⟨fun a ha=>
 bodyPost_ret (results_tmp3 hr a.tmps P w) (ha.defers.trans hds) ⟨_,by rw [ha.slot t v1 h1,ha.slot u v2 h2,ha.slot x v3 h3],h⟩⟩
end
end Go.Art
namespace Go.Art
open Go
def aggB:TypeDesc→Bool
 | .struct _=>true
 | .array _ _=>true
 | _=>false
def U (b:BitVec 64):Value:=.int .u64 b.toNat
abbrev I (n:Int):Value:=.int .i64 n
def addrAt:Value→Nat→Addr
 | .slice (some a) _ _,j=>a.add j
 | _,_=>⟨0,0,none⟩
def Sl (w:World) (v:Value) (xs:List Value):Prop:=
 ∃ a cap,v = .slice a xs.length cap∧xs.length ≤ cap∧cap ≤ maxLen∧(∀ i u,xs[i]? = some u→∃ x,a = some x∧w.cell? (x.add i) = some u)
theorem Sl.len {w:World} {v:Value} {xs:List Value} (h:Sl w v xs):xs.length ≤ 9223372036854775807:=by
 obtain ⟨_,cap,_,h1,h2,_⟩:=h
 unfold maxLen at h2;omega
theorem Sl.cell {w:World} {v:Value} {xs:List Value} (h:Sl w v xs) {i:Nat} {u:Value} (hi:xs[i]? = some u):w.cell? (addrAt v i) = some u:=by
 obtain ⟨a,cap,rfl,_,_,hc⟩:=h
 obtain ⟨x,rfl,hx⟩:=hc i u hi
 exact hx
variable {P:Program} {E:Env P} {n:Sh} {fr:Fr} {w:World} {ty t t':TypeId} {x y:Operand} {v:Value}
theorem R_move (hx:ev fr x = some v):OpV P n fr (.move x) ty w v w:=⟨fun a ha _ _ _ _=>by
 simp only [execOp,ha.ev hx];rfl⟩
theorem R_assign (hx:ev fr x = some v):OpV P n fr (.assign x) ty w v w:=⟨fun a ha _ _ _ _=>by
 simp only [execOp,ha.ev hx];rfl⟩
theorem R_pick_t {c:Operand} (hc:ev fr c = some (.bool true)) (hx:ev fr x = some v):OpV P n fr (.pick c x y) ty w v w:=⟨fun a ha _ _ _ _=>by
 simp only [execOp,ha.ev hc,ha.ev hx];rfl⟩
theorem R_pick_f {c:Operand} (hc:ev fr c = some (.bool false)) (hy:ev fr y = some v):OpV P n fr (.pick c x y) ty w v w:=⟨fun a ha _ _ _ _=>by
 simp only [execOp,ha.ev hc,ha.ev hy];rfl⟩
theorem R_true {o:Op} {w':World} {p:Prop} [Decidable p] (hr:OpV P n fr o ty w (.bool (decide p)) w') (h:p):OpV P n fr o ty w (.bool true) w':=by
 rwa [decide_eq_true h] at hr
theorem R_false {o:Op} {w':World} {p:Prop} [Decidable p] (hr:OpV P n fr o ty w (.bool (decide p)) w') (h:¬ p):OpV P n fr o ty w (.bool false) w':=by
 rwa [decide_eq_false h] at hr
section ints
variable {k:IntKind} {m q:Int}
theorem R_bin {op:BinOp} (hx:ev fr x = some (.int k m)) (hy:ev fr y = some (.int k q)) (hr:(binOp op t (.int k m) (.int k q)).run P w = .ok v w):OpV P n fr (.binOp op t x y t') ty w v w:=⟨fun a ha _ _ _ _=>by
 have hg:(eqGuard op t x y (.int k m) (.int k q)).run P w = .ok () w:=by
  unfold eqGuard
  cases op <;> rfl
 simp only [execOp,ha.ev hx,ha.ev hy]
 simp [hg,hr]⟩
theorem R_add (hx:ev fr x = some (.int k m)) (hy:ev fr y = some (.int k q)):OpV P n fr (.binOp .add t x y t') ty w (.int k (k.wrap (m + q))) w:=R_bin hx hy (by simp [binOp,Op.intArith])
theorem R_sub (hx:ev fr x = some (.int k m)) (hy:ev fr y = some (.int k q)):OpV P n fr (.binOp .sub t x y t') ty w (.int k (k.wrap (m - q))) w:=R_bin hx hy (by simp [binOp,Op.intArith])
theorem R_mul (hx:ev fr x = some (.int k m)) (hy:ev fr y = some (.int k q)):OpV P n fr (.binOp .mul t x y t') ty w (.int k (k.wrap (m * q))) w:=R_bin hx hy (by simp [binOp,Op.intArith])
theorem R_lss (hx:ev fr x = some (.int k m)) (hy:ev fr y = some (.int k q)):OpV P n fr (.binOp .lss t x y t') ty w (.bool (decide (m < q))) w:=R_bin hx hy (by simp [binOp,Op.intCmp])
theorem R_leq (hx:ev fr x = some (.int k m)) (hy:ev fr y = some (.int k q)):OpV P n fr (.binOp .leq t x y t') ty w (.bool (decide (m ≤ q))) w:=R_bin hx hy (by simp [binOp,Op.intCmp])
theorem R_gtr (hx:ev fr x = some (.int k m)) (hy:ev fr y = some (.int k q)):OpV P n fr (.binOp .gtr t x y t') ty w (.bool (decide (q < m))) w:=R_bin hx hy (by simp [binOp,Op.intCmp])
theorem R_geq (hx:ev fr x = some (.int k m)) (hy:ev fr y = some (.int k q)):OpV P n fr (.binOp .geq t x y t') ty w (.bool (decide (q ≤ m))) w:=R_bin hx hy (by simp [binOp,Op.intCmp])
theorem R_eql (hx:ev fr x = some (.int k m)) (hy:ev fr y = some (.int k q)):OpV P n fr (.binOp .eql t x y t') ty w (.bool (decide (m = q))) w:=R_bin hx hy (by simp [binOp,Op.intCmp];rfl)
theorem R_neq (hx:ev fr x = some (.int k m)) (hy:ev fr y = some (.int k q)):OpV P n fr (.binOp .neq t x y t') ty w (.bool (!decide (m = q))) w:=R_bin hx hy (by simp [binOp,Op.intCmp];rfl)
theorem R_quo (hx:ev fr x = some (.int k m)) (hy:ev fr y = some (.int k q)) (h:q ≠ 0):OpV P n fr (.binOp .quo t x y t') ty w (.int k (k.wrap (m.tdiv q))) w:=R_bin hx hy (by simp [binOp,Op.intDiv,h])
theorem R_rem (hx:ev fr x = some (.int k m)) (hy:ev fr y = some (.int k q)) (h:q ≠ 0):OpV P n fr (.binOp .rem t x y t') ty w (.int k (m.tmod q)) w:=R_bin hx hy (by simp [binOp,Op.intDiv,h])
/-! int's, no wrap -/
theorem R_add64 (hx:ev fr x = some (I m)) (hy:ev fr y = some (I q)) (h : -9223372036854775808 ≤ m + q∧m + q ≤ 9223372036854775807):OpV P n fr (.binOp .add t x y t') ty w (I (m + q)) w:=by
 have:=R_add (P:=P) (n:=n) (w:=w) (t:=t) (t':=t') (ty:=ty) hx hy;rwa [IntWalk.i64_in _ h] at this
theorem R_quo64 (hx:ev fr x = some (I m)) (hy:ev fr y = some (I q)) (h:0 ≤ m∧m ≤ 9223372036854775807∧1 ≤ q):OpV P n fr (.binOp .quo t x y t') ty w (I (m / q)) w:=by
 have:=R_quo (P:=P) (n:=n) (w:=w) (t:=t) (t':=t') (ty:=ty) hx hy (by omega);rwa [IntWalk.i64_quo _ _ h] at this
theorem R_rem64 (hx:ev fr x = some (I m)) (hy:ev fr y = some (I q)) (h:0 ≤ m∧q ≠ 0):OpV P n fr (.binOp .rem t x y t') ty w (I (m % q)) w:=by
 have:=R_rem (P:=P) (n:=n) (w:=w) (t:=t) (t':=t') (ty:=ty) hx hy h.2;rwa [IntWalk.rem_in _ _ h.1] at this
theorem R_conv {k':IntKind} (ht:lk E.und t' = some (.int k')) (hs:(lk E.und t).isSome = true) (hx:ev fr x = some (.int k m)):OpV P n fr (.convert t t' x) ty w (.int k' (k'.wrap m)) w:=⟨fun a ha _ _ _ _=>by
 obtain ⟨ds,hds⟩:=Option.isSome_iff_exists.1 hs
 have h1:=run_underlying (P:=P) (E.un ht) w
 have h2:=run_underlying (P:=P) (E.un hds) w
 simp only [execOp,ha.ev hx]
 simp [convert,h1,h2,Conv.intToInt]⟩
theorem R_neg (hx:ev fr x = some (.int k m)):OpV P n fr (.unOp .neg t x) ty w (.int k (k.wrap (0 - m))) w:=⟨fun a ha _ _ _ _=>by
 simp only [execOp,ha.ev hx];simp [Op.unary,Op.intArith]⟩
end ints
theorem R_not {b:Bool} (hx:ev fr x = some (.bool b)):OpV P n fr (.unOp .not t x) ty w (.bool (!b)) w:=⟨fun a ha _ _ _ _=>by
 simp only [execOp,ha.ev hx];simp [Op.unary]⟩
/-! uint64 as bits -/
theorem wrap_u64 (n:Int):IntKind.u64.wrap n = ((BitVec.ofInt 64 n).toNat:Int):=by
 have:IntKind.u64.wrap n = n % 18446744073709551616:=by simp [IntKind.wrap,IntKind.bits,IntKind.signed]
 rw [this,BitVec.toNat_ofInt];omega
section bits
variable {p q:BitVec 64}
theorem ofInt_toNat (p:BitVec 64):BitVec.ofInt 64 (p.toNat:Int) = p:=by
 rw [BitVec.ofInt_natCast];exact BitVec.ofNat_toNat _ _ |>.trans (by simp)
theorem R_uadd (hx:ev fr x = some (U p)) (hy:ev fr y = some (U q)):OpV P n fr (.binOp .add t x y t') ty w (U (p + q)) w:=by
 have:=R_add (P:=P) (n:=n) (w:=w) (t:=t) (t':=t') (ty:=ty) hx hy
 rw [wrap_u64] at this
 have e:BitVec.ofInt 64 ((p.toNat:Int) + (q.toNat:Int)) = p + q:=by rw [BitVec.ofInt_add,ofInt_toNat,ofInt_toNat]
 rw [e] at this;exact this
theorem R_usub (hx:ev fr x = some (U p)) (hy:ev fr y = some (U q)):OpV P n fr (.binOp .sub t x y t') ty w (U (p - q)) w:=by
 have:=R_sub (P:=P) (n:=n) (w:=w) (t:=t) (t':=t') (ty:=ty) hx hy
 rw [wrap_u64] at this
 have e:BitVec.ofInt 64 ((p.toNat:Int) - (q.toNat:Int)) = p - q:=by
  rw [Int.sub_eq_add_neg,BitVec.ofInt_add,ofInt_toNat,BitVec.ofInt_neg,ofInt_toNat,BitVec.sub_eq_add_neg]
 rw [e] at this;exact this
theorem R_umul (hx:ev fr x = some (U p)) (hy:ev fr y = some (U q)):OpV P n fr (.binOp .mul t x y t') ty w (U (p * q)) w:=by
 have:=R_mul (P:=P) (n:=n) (w:=w) (t:=t) (t':=t') (ty:=ty) hx hy
 rw [wrap_u64] at this
 have e:BitVec.ofInt 64 ((p.toNat:Int) * (q.toNat:Int)) = p * q:=by rw [BitVec.ofInt_mul,ofInt_toNat,ofInt_toNat]
 rw [e] at this;exact this
theorem R_uxor (hx:ev fr x = some (U p)) (hy:ev fr y = some (U q)):OpV P n fr (.binOp .xor t x y t') ty w (U (p ^^^ q)) w:=R_bin hx hy (by
 simp only [binOp,Op.intBits]
 show Result.ok (Value.int .u64 (IntKind.u64.wrap (((BitVec.ofInt 64 (p.toNat:Int)) ^^^ (BitVec.ofInt 64 (q.toNat:Int))).toNat:Int))) w = _
 rw [wrap_u64,ofInt_toNat,ofInt_toNat,ofInt_toNat];rfl)
theorem R_urem (hx:ev fr x = some (U p)) (hy:ev fr y = some (U q)) (h:q ≠ 0#64):OpV P n fr (.binOp .rem t x y t') ty w (U (p % q)) w:=by
 have h0:(q.toNat:Int) ≠ 0:=fun e=>h (BitVec.eq_of_toNat_eq (by simpa using e))
 have:=R_rem (P:=P) (n:=n) (w:=w) (t:=t) (t':=t') (ty:=ty) hx hy h0
 rw [IntWalk.rem_in _ _ (by omega)] at this
 have e:(p.toNat:Int) % (q.toNat:Int) = ((p % q).toNat:Int):=by rw [BitVec.toNat_umod];rfl
 rw [e] at this;exact this
theorem R_uleq (hx:ev fr x = some (U p)) (hy:ev fr y = some (U q)):OpV P n fr (.binOp .leq t x y t') ty w (.bool (decide (p.toNat ≤ q.toNat))) w:=by
 have:=R_leq (P:=P) (n:=n) (w:=w) (t:=t) (t':=t') (ty:=ty) hx hy
 have e:decide ((p.toNat:Int) ≤ (q.toNat:Int)) = decide (p.toNat ≤ q.toNat):=by simp
 rw [e] at this;exact this
theorem R_ugeq (hx:ev fr x = some (U p)) (hy:ev fr y = some (U q)):OpV P n fr (.binOp .geq t x y t') ty w (.bool (decide (q.toNat ≤ p.toNat))) w:=by
 have:=R_geq (P:=P) (n:=n) (w:=w) (t:=t) (t':=t') (ty:=ty) hx hy
 have e:decide ((q.toNat:Int) ≤ (p.toNat:Int)) = decide (q.toNat ≤ p.toNat):=by simp
 rw [e] at this;exact this
theorem R_ueql (hx:ev fr x = some (U p)) (hy:ev fr y = some (U q)):OpV P n fr (.binOp .eql t x y t') ty w (.bool (decide (p = q))) w:=by
 have:=R_eql (P:=P) (n:=n) (w:=w) (t:=t) (t':=t') (ty:=ty) hx hy
 have e:decide ((p.toNat:Int) = (q.toNat:Int)) = decide (p = q):=by
  rw [decide_eq_decide];exact ⟨fun h=>BitVec.eq_of_toNat_eq (by exact_mod_cast h),fun h=>by rw [h]⟩
 rw [e] at this;exact this
theorem fdiv_two_pow (p:BitVec 64) (c:Nat):((p.toNat:Int)).fdiv (2 ^ c) = ((p >>> c).toNat:Int):=by
 have h2:(0:Int) ≤ 2 ^ c:=Int.le_of_lt (Int.pow_pos (by decide))
 rw [BitVec.toNat_ushiftRight,Nat.shiftRight_eq_div_pow,Int.fdiv_eq_ediv_of_nonneg _ h2]
 simp
theorem R_ushr {k:IntKind} {z:Int} (hx:ev fr x = some (U p)) (hy:ev fr y = some (.int k z)) (hz:0 ≤ z∧z ≤ 64):OpV P n fr (.binOp .shr t x y t') ty w (U (p >>> z.toNat)) w:=⟨fun a ha _ _ _ _=>by
 have hg:(eqGuard .shr t x y (U p) (.int k z)).run P w = .ok () w:=rfl
 have h1:¬ z < 0:=by omega
 have h2:min z.toNat 64 = z.toNat:=by omega
 simp only [execOp,ha.ev hx,ha.ev hy]
 simp only [hg,Sem.run_bind,Result.andThen_ok]
 show (Result.andThen ((binOp .shr t (.int .u64 (p.toNat:Int)) (.int k z)).run P w) _) = _
 simp only [binOp,Op.shift,h1,if_false]
 show Result.ok (Next.value (.int .u64 ((p.toNat:Int).fdiv (2 ^ (min z.toNat 64))))) w = _
 rw [h2,fdiv_two_pow];rfl⟩
theorem evU_const {m:Int} (h:0 ≤ m∧m < 18446744073709551616):ev fr (.const (.int .u64 m)) = some (U (BitVec.ofInt 64 m)):=by
 have e:((BitVec.ofInt 64 m).toNat:Int) = m:=by rw [BitVec.toNat_ofInt];omega
 show some (Value.int .u64 m) = some (Value.int .u64 ((BitVec.ofInt 64 m).toNat:Int))
 rw [e]
theorem R_toU {m:Int} (ht:lk E.und t' = some (.int .u64)) (hs:(lk E.und t).isSome = true) (hx:ev fr x = some (I m)):OpV P n fr (.convert t t' x) ty w (U (BitVec.ofInt 64 m)) w:=by
 have:=R_conv (n:=n) (w:=w) (ty:=ty) ht hs hx
 rw [wrap_u64] at this;exact this
theorem R_ofU (ht:lk E.und t' = some (.int .i64)) (hs:(lk E.und t).isSome = true) (hx:ev fr x = some (U p)) (h:p.toNat ≤ 9223372036854775807):OpV P n fr (.convert t t' x) ty w (I p.toNat) w:=by
 have:=R_conv (n:=n) (w:=w) (ty:=ty) ht hs hx
 rw [IntWalk.i64_in _ (by omega)] at this;exact this
theorem R_uneg (hx:ev fr x = some (U p)):OpV P n fr (.unOp .neg t x) ty w (U (-p)) w:=by
 have:=R_neg (P:=P) (n:=n) (w:=w) (t:=t) (ty:=ty) hx
 rw [wrap_u64] at this
 have e:BitVec.ofInt 64 (0 - (p.toNat:Int)) = -p:=by rw [Int.zero_sub,BitVec.ofInt_neg,ofInt_toNat]
 rw [e] at this;exact this
end bits
/-! ### Memory -/
theorem aggB_run {d:TypeDesc} (ht:lk E.und t = some d) (hd:aggB d = false):(isAgg t).run P w = .ok false w:=by
 simp only [isAgg,Sem.run_bind,run_underlying (P:=P) (E.un ht) w,Result.andThen_ok]
 cases d <;> first | rfl | (simp [aggB] at hd)
theorem R_load {d:TypeDesc} {a:Addr} (ht:lk E.und t = some d) (hd:aggB d = false) (hx:ev fr x = some (.pointer (some a))) (hc:w.cell? a = some v):OpV P n fr (.load t x) ty w v w:=⟨fun b hb _ _ _ _=>by
 simp only [execOp,hb.ev hx]
 simp [Instr.loadAt,Instr.sureAddr,loadVar,aggB_run (w:=w) ht hd,hc]⟩
theorem R_len {e:TypeId} {xs:List Value} (ht:lk E.und t = some (.slice e)) (hx:ev fr x = some v) (hS:Sl w v xs):OpV P n fr (.call ⟨.builtin .len,#[x],#[t]⟩) ty w (I xs.length) w:=⟨fun b hb _ _ _ _=>by
 obtain ⟨a,cap,rfl,_⟩:=hS
 simp only [execOp,resolve]
 simp [hb.ev hx,invoke,builtin,Builtin.len_,run_underlying (P:=P) (E.un ht) w,goInt]⟩
theorem R_idx {e:TypeId} {z:Value} {by_:Nat} {k:IntKind} {i:Int} {xs:List Value} (ht:lk E.und t = some (.slice e)) (he:lk E.inf e = some (z,1,by_)) (hx:ev fr x = some v) (hy:ev fr y = some (.int k i)) (hS:Sl w v xs)
  (h:0 ≤ i∧i < xs.length):OpV P n fr (.indexAddr t x y) ty w (.pointer (some (addrAt v i.toNat))) w:=⟨fun b hb _ _ _ _=>by
 obtain ⟨a,cap,rfl,h1,h2,hc⟩:=hS
 obtain ⟨inf,hi,_,hsz,_⟩:=E.info he
 have hlt:i.toNat < xs.length:=by omega
 obtain ⟨ad,rfl,_⟩:=hc i.toNat xs[i.toNat] (List.getElem?_eq_getElem hlt)
 simp only [execOp,hb.ev hx,hb.ev hy]
 simp [Instr.indexAt,asIntOf,run_underlying (P:=P) (E.un ht) w,h,sizeOf,typeInfo,hi,hsz,addrAt]⟩
theorem R_nil {a:Addr} (hx:ev fr x = some (.pointer (some a))):OpV P n fr (.nilCheck x) ty w (.pointer (some a)) w:=⟨fun b hb _ _ _ _=>by
 simp only [execOp,hb.ev hx];rfl⟩
theorem R_fld {fs:Array Field} {f:Nat} {fld:Field} {z:Value} {sz by_ b o:Nat} (ht:lk E.und t = some (.struct fs)) (hf:fs[f]? = some fld) (he:lk E.inf fld.type = some (z,sz,by_)) (hsz:Nat.beq sz 0 = false)
  (hx:ev fr x = some (.pointer (some ⟨b,o,none⟩))):OpV P n fr (.fieldAddr t x f) ty w (.pointer (some ⟨b,o + fld.offset,none⟩)) w:=⟨fun a ha _ _ _ _=>by
 obtain ⟨inf,hi,_,hs,_⟩:=E.info he
 have h0:¬ sz = 0:=nbeq_ne hsz
 have e:(⟨b,o,none⟩ : Addr).add fld.offset = ⟨b,o + fld.offset,none⟩:=by
  unfold Addr.add;split
  ·rename_i h;simp [h]
  ·rfl
 simp only [execOp,ha.ev hx]
 simp [Instr.fieldAt,run_underlying (P:=P) (E.un ht) w,hf,Instr.sureAddr,fieldPlace,sizeOf,typeInfo,hi,hs,h0,e]⟩
theorem R_extract {vs:List Value} {i:Nat} (hx:ev fr x = some (.tuple vs.toArray)) (hi:vs[i]? = some v):OpV P n fr (.extract x i) ty w v w:=⟨fun b hb _ _ _ _=>by
 simp only [execOp,hb.ev hx]
 simp [Instr.extract,hi]⟩
end Go.Art
namespace Go.Art
open Go Go.RowKit
structure Upd (w w':World) (S:List Nat):Prop where
 os:w'.os = w.os
 tape:w'.tape = w.tape
 output:w'.output = w.output
 size:w.heap.size ≤ w'.heap.size
 block:∀ k,k < w.heap.size→k ∉ S→w'.heap[k]? = w.heap[k]?
abbrev Ext (w w':World):Prop:=Upd w w' []
theorem Upd.refl (w:World) (S:List Nat):Upd w w S:=⟨rfl,rfl,rfl,Nat.le_refl _,fun _ _ _=>rfl⟩
theorem Upd.trans {a b c:World} {S T:List Nat} (h:Upd a b S) (k:Upd b c T):Upd a c (S ++ T):=
 ⟨k.os.trans h.os,k.tape.trans h.tape,k.output.trans h.output,Nat.le_trans h.size k.size,fun i hi hn=>
  (k.block i (Nat.lt_of_lt_of_le hi h.size) (fun hm=>hn (List.mem_append_right _ hm))).trans (h.block i hi (fun hm=>hn (List.mem_append_left _ hm)))⟩
theorem Upd.weak {a b:World} {S T:List Nat} (h:Upd a b S) (hST:∀ k ∈ S,k ∈ T∨a.heap.size ≤ k):Upd a b T:=
 ⟨h.os,h.tape,h.output,h.size,fun i hi hn=>h.block i hi (fun hm=>by rcases hST i hm with h1 | h1;exact hn h1;omega)⟩
theorem Ext.trans {a b c:World} (h:Ext a b) (k:Ext b c):Ext a c:=(Upd.trans h k)
theorem Upd.drew (w:World):Ext w w.drew:=⟨rfl,rfl,rfl,Nat.le_refl _,fun _ _ _=>rfl⟩
theorem Upd.draw (w:World):Ext w { w with drawn:=w.drawn + 1 }:=⟨rfl,rfl,rfl,Nat.le_refl _,fun _ _ _=>rfl⟩
theorem Upd.alloc (w:World) (o:Obj):Ext w (w.alloc o):=⟨rfl,rfl,rfl,by simp,fun k hk _=>Below.heap_alloc w o k hk⟩
theorem Upd.setCell (w:World) (a:Addr) (v:Value):Upd w (w.setCell a v) [a.block]:=
 ⟨rfl,rfl,rfl,by simp,fun k _ hn=>heap_setCell_other w a k v (fun e=>hn (by simp [e]))⟩
theorem Upd.setRow (w:World) (g:Nat) (cs:Array Value):Upd w (w.setRow g cs) [g]:=
 ⟨rfl,rfl,rfl,by simp,fun k _ hn=>setRow_other w g k cs (fun e=>hn (by simp [e]))⟩
theorem lt_of_heap {w:World} {k:Nat} {o:Obj} (h:w.heap[k]? = some o):k < w.heap.size:=(Array.getElem?_eq_some_iff.1 h).1
theorem Upd.below {w w':World} (h:Ext w w'):Below w.heap.size w w':=⟨h.os,h.tape,h.output,h.size,fun k hk=>h.block k hk (by simp)⟩
def Off (v:Value) (b:Nat):Prop:=v.ownBlock ≠ some b
theorem Sl.nil (w:World):Sl w (.slice none 0 0) []:=⟨none,0,rfl,Nat.le_refl _,by simp [maxLen],fun i u h=>by simp at h⟩
def Own (w:World) (e:TypeId) (g:Option Nat) (v:Value) (xs:List Value):Prop:=
 (g = none∧v = .slice none 0 0∧xs = []) ∨
 ∃ b cap cur,g = some b∧v = .slice (some ⟨b,0,none⟩) xs.length cap∧w.heap[b]? = some (.cells cur e (0,0))∧xs.length ≤ cap∧cap ≤ maxLen∧cur.size = cap∧cur.toList.take xs.length = xs
theorem Own.block {w:World} {e:TypeId} {g:Option Nat} {v:Value} {xs:List Value} (h:Own w e g v xs):v.ownBlock = g:=by
 rcases h with ⟨rfl,rfl,_⟩ | ⟨b',cap,cur,rfl,rfl,_⟩ <;> rfl
def Was (w:World) (g g':Option Nat):Prop:=g' = g∨∃ b,g' = some b∧w.heap.size ≤ b
section
variable {P:Program} {E:Env P} {n:Sh} {Q0:Exit→Act→World→Prop} {s:List K} {fr:Fr} {w:World} {ops:Array Oper} {rest:List Oper} {d:Nat} {ty t e:TypeId} {pos:String} {after:Array Edge} {v u z:Value}
 {x y:Operand} {by_:Nat}
theorem blk_cell {b j:Nat} {cs:Array Value} {T:TypeId} {f:Nat × Nat} (h:w.heap[b]? = some (.cells cs T f)) (hj:cs[j]? = some v):w.cell? ⟨b,j,none⟩ = some v:=
 (cell_of_row w b j cs T f h).trans hj
theorem SO_store {b j:Nat} {cs:Array Value} {T:TypeId} (ht:lk E.inf t = some (z,1,by_)) (ha:ev fr x = some (.pointer (some ⟨b,j,none⟩))) (hx:ev fr y = some v) (hv:v.oneCell' = true)
  (hb:w.heap[b]? = some (.cells cs T (0,0))) (hj':Nat.blt j cs.size = true)
  (h:∀ w',Upd w w' [b]→w'.heap[b]? = some (.cells (cs.setIfInBounds j v) T (0,0))→SO E n Q0 s ops rest fr w') :
  SO E n Q0 s ops (⟨none,.store t x y,ty,pos,after,none⟩ :: rest) fr w:=by
 refine SO_u (w':=w.setCell ⟨b,j,none⟩ v) ⟨fun a ha' _ _ _ _=>?_⟩ (h _ (Upd.setCell w _ v) (heap_setCell_same w b j cs T v hb))
 obtain ⟨inf,hi,_,hs,_⟩:=E.info ht
 have hj:=nblt_lt hj'
 have hc:w.cell? ⟨b,j,none⟩ = some cs[j]:=blk_cell hb (Array.getElem?_eq_getElem hj)
 have hf:w.frozen? ⟨b,j,none⟩ = false:=frozen_of_row w b j cs T hb
 have hcs:v.cells = #[v]:=by cases v <;> first | rfl | (simp [Value.oneCell'] at hv)
 simp only [execOp,ha'.ev ha,ha'.ev hx]
 simp only [Instr.storeAt,Instr.sureAddr,storeVar,sizeOf,typeInfo,hi,hs,hcs]
 have hst:(store (⟨b,j,none⟩ : Addr) v).run P w = .ok () (w.setCell ⟨b,j,none⟩ v):=by
  unfold store
  cases v <;> first | (simp [Value.oneCell'] at hv;done) | simp [Sem.run,hc,hf]
 simp [storeCells,Addr.add,hi,hs,hst]
theorem SO_box {d:Nat} (hd:Nat.blt d n.n = true) (hx:ev fr x = some v)
  (h:∀ w',Ext w w'→w'.heap.size = w.heap.size + 1→w'.heap[w.heap.size]? = some (.cells v.cells t (0,0))→SO E n Q0 s ops rest ((d,.pointer (some ⟨w.heap.size,0,none⟩)) :: fr) w') :
  SO E n Q0 s ops (⟨some d,.box t x,ty,pos,after,none⟩ :: rest) fr w:=by
 refine SO_v hd (w':=w.alloc (.cells v.cells t)) ⟨fun a ha' _ _ _ _=>?_⟩ (h _ (Upd.alloc w _) (by simp) (heap_alloc_new w _))
 simp only [execOp,ha'.ev hx]
 simp [Instr.box,newVar,newRow,newObj,Sem.run]
theorem SO_alloc {d sz:Nat} (hd:Nat.blt d n.n = true) (ht:lk E.inf t = some (z,sz,by_))
  (h:∀ w',Ext w w'→w'.heap.size = w.heap.size + 1→w'.heap[w.heap.size]? = some (.cells z.cells t (0,0))→SO E n Q0 s ops rest ((d,.pointer (some ⟨w.heap.size,0,none⟩)) :: fr) w') :
  SO E n Q0 s ops (⟨some d,.alloc t,ty,pos,after,none⟩ :: rest) fr w:=by
 refine SO_v hd (w':=w.alloc (.cells z.cells t)) ⟨fun a ha' _ _ _ _=>?_⟩ (h _ (Upd.alloc w _) (by simp) (heap_alloc_new w _))
 obtain ⟨inf,hi,hz,_,_⟩:=E.info ht
 simp only [execOp]
 simp [Instr.alloc,zeroValue,typeInfo,hi,hz,newVar,newRow,newObj,Sem.run]
theorem R_iface {d:TypeDesc} (ht:lk E.und t = some d) (hd:(match d with | .interface _=>false | _=>true) = true) (hx:ev fr x = some v):OpV P n fr (.makeInterface t x) ty w (.iface t v) w:=⟨fun a ha _ _ _ _=>by
 simp only [execOp,ha.ev hx]
 have h1:=run_underlying (P:=P) (E.un ht) w
 cases d <;> first | (cases hd;done) | simp [Instr.makeInterface,h1]⟩
theorem R_ptrEqNil {p:Option Addr} {el:TypeId} (ht:lk E.und t = some (.pointer el)) (hx:ev fr x = some (.pointer p)) {t':TypeId}:OpV P n fr (.binOp .eql t x (.const (.pointer none)) t') ty w (.bool p.isNone) w:=⟨fun a ha _ _ _ _=>by
 have hp:P.underlying t = some (.pointer (P.pointee t)):=by have:=E.un ht;rw [this];simp [Program.pointee,this]
 have hg:(eqGuard .eql t x (.const (.pointer none)) (.pointer p) (.pointer none)).run P w = .ok () w:=rfl
 simp only [execOp,ha.ev hx]
 simp [Act.eval,hg,run_eql_pointer_nil w t p hp]⟩
theorem R_ptrNeNil {p:Option Addr} {el:TypeId} (ht:lk E.und t = some (.pointer el)) (hx:ev fr x = some (.pointer p)) {t':TypeId}:OpV P n fr (.binOp .neq t x (.const (.pointer none)) t') ty w (.bool (!p.isNone)) w:=⟨fun a ha _ _ _ _=>by
 have hp:P.underlying t = some (.pointer (P.pointee t)):=by have:=E.un ht;rw [this];simp [Program.pointee,this]
 have hg:(eqGuard .neq t x (.const (.pointer none)) (.pointer p) (.pointer none)).run P w = .ok () w:=rfl
 simp only [execOp,ha.ev hx]
 simp [Act.eval,hg,run_neq_pointer_nil w t p hp]⟩
theorem R_slEqNil {o:Option Addr} {l c:Nat} {el:TypeId} (ht:lk E.und t = some (.slice el)) (hx:ev fr x = some (.slice o l c)) {t':TypeId}:OpV P n fr (.binOp .eql t x (.const (.slice none 0 0)) t') ty w (.bool o.isNone) w:=⟨fun a ha _ _ _ _=>by
 have hg:(eqGuard .eql t x (.const (.slice none 0 0)) (.slice o l c) (.slice none 0 0)).run P w = .ok () w:=rfl
 simp only [execOp,ha.ev hx]
 simp [Act.eval,hg,Lib.run_eql_slice_nil w t el o l c 0 0 (E.un ht)]⟩
theorem R_ifEqNil {ms:Array (String × TypeId)} {tt:TypeId} (ht:lk E.und t = some (.interface ms)) (hx:ev fr x = some (.iface tt v)) {t':TypeId}:OpV P n fr (.binOp .eql t x (.const .nilIface) t') ty w (.bool false) w:=⟨fun a ha _ _ _ _=>by
 have hg:(eqGuard .eql t x (.const .nilIface) (.iface tt v) .nilIface).run P w = .ok () w:=rfl
 have hm:P.underlying t = some (.interface (P.methodsAt t)):=by have:=E.un ht;rw [this];simp [Program.methodsAt,this]
 simp only [execOp,ha.ev hx]
 simp [Act.eval,hg,run_eql_held_nil (P:=P) w t tt v hm]⟩
/-! ### append -/
theorem run_append_zero (t':TypeId) {o:Option Addr} {l c:Nat} {o':Option Addr} {c':Nat} (w:World) (ht:P.underlying t = some (.slice e)) {i:TypeInfo} (hi:P.info? e = some i) (hlc:l ≤ c) :
  (Builtin.append_ #[t,t] t' #[.slice o l c,.slice o' 0 c']).run P w = .ok (.slice o l c) w:=by
 cases o <;> cases o' <;> simp [Builtin.append_,run_underlying ht,sizeOf,typeInfo,hi,Builtin.lenOf,Builtin.firstCells,loadCells,loadCellsFrom,storeCells,hlc]
def idxP {α:Type}:Nat→List α→List (Nat × α)
 | _,[]=>[]
 | i,x :: r=>(i,x) :: idxP (i + 1) r
theorem oneCell_cells {v:Value} (h:v.oneCell' = true):v.cells = #[v]:=by cases v <;> first | rfl | (simp [Value.oneCell'] at h)
theorem fill_idx:∀ (vs:List Value) (j:Nat) (cells:Array Value),(∀ v ∈ vs,v.oneCell' = true)→j + vs.length ≤ cells.size →
  Instr.fill (fun i=>some (i * 1,1)) cells (idxP j vs) = some (cells.toList.take j ++ vs ++ cells.toList.drop (j + vs.length)).toArray
 | [],j,cells,_,_=>by simp [idxP,Instr.fill]
 | v :: r,j,cells,h1,hl=>by
  have hv:=oneCell_cells (h1 v (by simp))
  simp only [List.length_cons] at hl
  have hb:¬ (j * 1 + 1 > cells.size):=by omega
  simp only [idxP,Instr.fill,hv]
  simp only [List.size_toArray,List.length_cons,List.length_nil,Nat.zero_add,ne_eq,not_true_eq_false,decide_false,Bool.false_or,decide_eq_true_eq,hb,if_false]
  have e:(#[v].zipIdx.foldl (fun cs (x:Value × Nat)=>cs.setIfInBounds (j * 1 + x.2) x.1) cells) = cells.setIfInBounds j v:=by simp
  have hrec:=fill_idx r (j + 1) (cells.setIfInBounds j v) (fun u hu=>h1 u (by simp [hu])) (by simp;omega)
  show Instr.fill _ (#[v].zipIdx.foldl (fun cs (x:Value × Nat)=>cs.setIfInBounds (j * 1 + x.2) x.1) cells) _ = _
  rw [e,hrec]
  congr 2
  simp only [Array.toList_setIfInBounds,List.length_cons]
  rw [List.take_succ_eq_append_getElem (by simp;omega)]
  have e2:j + 1 + r.length = j + (r.length + 1):=by omega
  rw [e2,List.take_set_of_le (Nat.le_refl _),List.drop_set_of_lt (by omega)]
  simp
theorem SO_slit {k:Nat} {parts:List (Nat × Operand)} {vs:List Value} (hd:Nat.blt d n.n = true) (ht:lk E.und t = some (.slice e)) (he:lk E.inf e = some (z,1,by_))
  (hp:parts = idxP 0 (parts.map (·.2))) (hv:evs fr (parts.map (·.2)) = some vs) (h1:∀ v ∈ vs,v.oneCell' = true) (hk:vs.length = k) (hk0:Nat.blt 0 k = true) (hkm:Nat.ble k 16777216 = true)
  (h:∀ w',Ext w w'→Own w' e (some w.heap.size) (.slice (some ⟨w.heap.size,0,none⟩) k k) vs→SO E n Q0 s ops rest ((d,.slice (some ⟨w.heap.size,0,none⟩) k k) :: fr) w') :
  SO E n Q0 s ops (⟨some d,.buildSlice t k parts.toArray,ty,pos,after,none⟩ :: rest) fr w:=by
 subst hk
 obtain ⟨inf,hi,hiz,his,_⟩:=E.info he
 have hkm':=Nat.le_of_ble_eq_true hkm
 have hk0':=nblt_lt hk0
 refine SO_v hd (w':=w.alloc (.cells vs.toArray e)) ⟨fun a ha' _ _ _ _=>?_⟩ (h _ (Upd.alloc w _) (.inr ⟨w.heap.size,vs.length,vs.toArray,rfl,rfl,heap_alloc_new w _,Nat.le_refl _,by unfold maxLen;omega,by simp,by simp⟩))
 have hmap:(parts.map fun (x:Nat × Operand)=>(x.1,a.eval x.2)) = idxP 0 vs:=by
  have hev:=ha'.evs hv
  have gen:∀ (l:List Operand) (i:Nat),(idxP i l).map (fun (x:Nat × Operand)=>(x.1,a.eval x.2)) = idxP i (l.map a.eval):=by
   intro l
   induction l with
   | nil=>intro i;rfl
   | cons o r ih=>intro i;simp [idxP,ih]
  rw [hp,gen,hev]
 have hfill:=fill_idx vs 0 ((Array.range (vs.length * 1)).map (z.cells[· % z.cells.size]!)) h1 (by simp)
 have hres:((List.take 0 ((Array.range (vs.length * 1)).map (z.cells[· % z.cells.size]!)).toList ++ vs ++ List.drop (0 + vs.length) ((Array.range (vs.length * 1)).map (z.cells[· % z.cells.size]!)).toList).toArray) = vs.toArray:=by
  simp
 rw [hres] at hfill
 have hn0:¬ vs.length = 0:=by omega
 have hn1:¬ 2 ^ 24 < vs.length:=by omega
 have hgo:(Instr.buildSlice t vs.length ((parts.toArray.map fun (x:Nat × Operand)=>(x.1,a.eval x.2)))).run P w = .ok (.slice (some ⟨w.heap.size,0,none⟩) vs.length vs.length) (w.alloc (.cells vs.toArray e)):=by
  have hl:((parts.toArray.map fun (x:Nat × Operand)=>(x.1,a.eval x.2))).toList = idxP 0 vs:=by simp [hmap]
  simp only [Instr.buildSlice,hl]
  simp only [Nat.mul_one] at hfill
  simp [run_underlying (P:=P) (E.un ht) w,sizeOf,typeInfo,hi,his,zeroValue,hiz,hn0,hn1,hfill,newRow,newObj,Sem.run]
 simp only [execOp]
 show Sem.run P (do let v ← Instr.buildSlice t vs.length ((parts.toArray.map fun (x:Nat × Operand)=>(x.1,a.eval x.2)));pure (Next.value v)) w = _
 rw [List.map_toArray] at hgo
 simp [hgo]
theorem SO_slit0 (hd:Nat.blt d n.n = true) (ht:lk E.und t = some (.slice e)) (he:lk E.inf e = some (z,1,by_))
  (h:∀ w',Ext w w'→Own w' e (some w.heap.size) (.slice (some ⟨w.heap.size,0,none⟩) 0 0) []→SO E n Q0 s ops rest ((d,.slice (some ⟨w.heap.size,0,none⟩) 0 0) :: fr) w') :
  SO E n Q0 s ops (⟨some d,.buildSlice t 0 #[],ty,pos,after,none⟩ :: rest) fr w:=by
 obtain ⟨inf,hi,_,his,_⟩:=E.info he
 refine SO_v hd (w':=w.alloc (.cells #[] e)) ⟨fun a ha' _ _ _ _=>?_⟩ (h _ (Upd.alloc w _) (.inr ⟨w.heap.size,0,#[],rfl,rfl,heap_alloc_new w _,Nat.le_refl _,by simp [maxLen],rfl,by simp⟩))
 simp only [execOp]
 simp [Instr.buildSlice,run_underlying (P:=P) (E.un ht) w,sizeOf,typeInfo,hi,Instr.fill,newRow,newObj,Sem.run]
 congr 2
 exact Array.eq_empty_of_size_eq_zero (by simp)
theorem SO_make {k:IntKind} {m:Int} (hd:Nat.blt d n.n = true) (ht:lk E.und t = some (.slice e)) (he:lk E.inf e = some (z,1,by_)) (hz:z.cells = #[z]) (hx:ev fr x = some (.int k m)) (hy:ev fr y = some (.int k m))
  (h0:0 ≤ m) (hby:by_ * m.toNat ≤ 281474976710656) (h63:m ≤ 9223372036854775807)
  (h:∀ w' v,Ext w w'→Own w' e (some w.heap.size) v (List.replicate m.toNat z)→SO E n Q0 s ops rest ((d,v) :: fr) w') :
  SO E n Q0 s ops (⟨some d,.makeSlice t x y,ty,pos,after,none⟩ :: rest) fr w:=by
 obtain ⟨inf,hi,hiz,his,hib⟩:=E.info he
 have hm:m = ((m.toNat:Nat):Int):=by omega
 obtain ⟨w',hr,hown,hg⟩:=run_make_full (P:=P) w 0 t e inf z 1 (E.un ht) hi hiz his k k m.toNat (by rw [hib];exact hby) (by unfold maxLen;omega) (Nat.zero_le _)
 have hU:Ext w w':=⟨hg.os,hg.tape,hg.output,hg.size,fun k hk _=>hg.block k hk (by simp)⟩
 have hO:Own w' e (some w.heap.size) (.slice (some ⟨w.heap.size,0,none⟩) m.toNat m.toNat) (List.replicate m.toNat z):=by
  have hl:(madeCells z.cells (m.toNat * 1)).toList = List.replicate m.toNat z:=by rw [Nat.mul_one,hz,toList_madeCells_one]
  rw [hl] at hown
  rcases hown.2 with ⟨h1,_⟩ | ⟨g,cap,cur,h1,_,h2,h3,h4,h5,h6⟩
  ·cases h1
  ·simp only [Value.slice.injEq,Option.some.injEq,Addr.mk.injEq,true_and,and_true] at h1
   obtain ⟨rfl,rfl⟩:=h1
   refine .inr ⟨_,m.toNat,cur,rfl,by simp,h2,by simp,h4,by omega,?_⟩
   simpa using h6
 refine SO_v hd (w':=w') ⟨fun a ha' _ _ _ _=>?_⟩ (h w' _ hU hO)
 rw [← hm] at hr
 simp only [execOp,ha'.ev hx,ha'.ev hy]
 simp [hr]
end
end Go.Art
namespace Go.Art
open Go Go.RowKit
section
variable {P:Program} {E:Env P} {n:Sh} {Q0:Exit→Act→World→Prop} {s:List K} {fr:Fr} {w:World} {ops:Array Oper} {rest:List Oper} {d:Nat} {ty t e:TypeId} {pos:String} {after:Array Edge} {v u z:Value}
 {x y:Operand} {by_:Nat}
def places (inf:List (Nat × (Value × Nat × Nat))):List Field→Option (List (Nat × Nat))
 | []=>some []
 | f :: r=>match lk inf f.type with
  | some q=>match places inf r with
   | some l=>some ((f.offset,q.2.1) :: l)
   | none=>none
  | none=>none
theorem places_run {fs:List Field} {pl:List (Nat × Nat)} (h:places E.inf fs = some pl):(fs.mapM (m:=Sem) fun f=>do pure (f.offset,← sizeOf f.type)).run P w = .ok pl w:=by
 induction fs generalizing pl with
 | nil=>simp [places] at h;subst h;rfl
 | cons f r ih=>
  simp only [places] at h
  split at h
  ·rename_i q hq
   split at h
   ·rename_i l hl
    cases h
    obtain ⟨inf,hi,_,hs,_⟩:=E.info (z:=q.1) (s:=q.2.1) (b:=q.2.2) hq
    have:=ih hl
    simp [List.mapM_cons,sizeOf,typeInfo,hi,hs] at this ⊢
    simp [this]
   ·cases h
  ·cases h
def setParts (pl:List (Nat × Nat)):List Value→List (Nat × Value)→Option (List Value)
 | cs,[]=>some cs
 | cs,(i,v) :: r=>match pl[i]? with
  | some (off,sz)=>bif Nat.beq v.cells.size sz && Nat.ble (off + sz) cs.length then setParts pl (cs.take off ++ v.cells.toList ++ cs.drop (off + sz)) r else none
  | none=>none
theorem foldl_set (vs:List Value):∀ (off j:Nat) (cs:Array Value),off + j + vs.length ≤ cs.size →
  ((vs.zipIdx j).foldl (fun cs (x:Value × Nat)=>cs.setIfInBounds (off + x.2) x.1) cs) = (cs.toList.take (off + j) ++ vs ++ cs.toList.drop (off + j + vs.length)).toArray:=by
 induction vs with
 | nil=>intro off j cs _;simp
 | cons c r ih=>
  intro off j cs h
  simp only [List.length_cons] at h
  simp only [List.zipIdx_cons,List.foldl_cons,List.length_cons]
  rw [ih off (j + 1) _ (by simp;omega)]
  congr 1
  simp only [Array.toList_setIfInBounds]
  have e1:off + (j + 1) = (off + j) + 1:=by omega
  rw [e1,List.take_succ_eq_append_getElem (by simp;omega)]
  have e2:off + j + 1 + r.length = off + j + (r.length + 1):=by omega
  rw [e2,List.take_set_of_le (Nat.le_refl _),List.drop_set_of_lt (by omega)]
  simp
theorem fill_parts {pl:List (Nat × Nat)}:∀ {vs:List (Nat × Value)} {cs cs':List Value},setParts pl cs vs = some cs'→Instr.fill (pl[·]?) cs.toArray vs = some cs'.toArray
 | [],cs,cs',h=>by simp [setParts] at h;simp [Instr.fill,h]
 | (i,v) :: r,cs,cs',h=>by
  simp only [setParts] at h
  cases hp:pl[i]? with
  | none=>rw [hp] at h;cases h
  | some q=>
   obtain ⟨off,sz⟩:=q
   rw [hp] at h
   simp only at h
   by_cases hc:(Nat.beq v.cells.size sz && Nat.ble (off + sz) cs.length) = true
   ·rw [hc,cond_true] at h
    simp only [Bool.and_eq_true] at hc
    have h1:=Nat.eq_of_beq_eq_true hc.1
    have h2:=Nat.le_of_ble_eq_true hc.2
    simp only [Instr.fill,hp]
    have hx:¬ (off + v.cells.size > cs.toArray.size):=by simp;omega
    have hx1:¬ ((decide (v.cells.size ≠ sz) || decide (off + v.cells.size > cs.toArray.size)) = true):=by simp [h1];omega
    rw [if_neg hx1]
    have hf:(v.cells.zipIdx.foldl (fun cs (x:Value × Nat)=>cs.setIfInBounds (off + x.2) x.1) cs.toArray) = (cs.take off ++ v.cells.toList ++ cs.drop (off + sz)).toArray:=by
     have:=foldl_set v.cells.toList off 0 cs.toArray (by simp;omega)
     simp only [Nat.add_zero] at this
     rw [← Array.foldl_toList,Array.toList_zipIdx,this]
     simp [h1]
    show Instr.fill _ (v.cells.zipIdx.foldl (fun cs (x:Value × Nat)=>cs.setIfInBounds (off + x.2) x.1) cs.toArray) r = _
    rw [hf]
    exact fill_parts h
   ·have:(Nat.beq v.cells.size sz && Nat.ble (off + sz) cs.length) = false:=by simpa only [Bool.not_eq_true] using hc
    rw [this,cond_false] at h;cases h
def evps (fr:Fr):List (Nat × Operand)→Option (List (Nat × Value))
 | []=>some []
 | (i,x) :: r=>match ev fr x with
  | some v=>match evps fr r with
   | some vs=>some ((i,v) :: vs)
   | none=>none
  | none=>none
theorem Holds.evps {a:Act} (h:Holds n a fr):∀ {xs:List (Nat × Operand)} {vs:List (Nat × Value)},evps fr xs = some vs→xs.map (fun (p:Nat × Operand)=>(p.1,a.eval p.2)) = vs
 | [],vs,e=>by simp [Art.evps] at e;simp [e]
 | (i,x) :: r,vs,e=>by
  simp only [Art.evps] at e
  split at e
  ·rename_i v hv
   split at e
   ·rename_i us hus
    simp only [Option.some.injEq] at e
    subst e
    simp [h.ev hv,Holds.evps h hus]
   ·cases e
  ·cases e
theorem R_build {fs:List Field} {zs cs:List Value} {pl:List (Nat × Nat)} {sz:Nat} {parts:List (Nat × Operand)} {vs:List (Nat × Value)} (ht:lk E.und t = some (.struct fs.toArray)) (he:lk E.inf t = some (.agg zs.toArray,sz,by_))
  (hpl:places E.inf fs = some pl) (hv:evps fr parts = some vs) (hs:setParts pl zs vs = some cs):OpV P n fr (.build t parts.toArray) ty w (.agg cs.toArray) w:=⟨fun a ha _ _ _ _=>by
 obtain ⟨inf,hi,hz,_,_⟩:=E.info he
 have h1:=ha.evps hv
 have h2:=fill_parts hs
 have h3:=places_run (w:=w) hpl
 have hb:(Instr.build t (vs.toArray)).run P w = .ok (.agg cs.toArray) w:=by
  have hmm:(fs.mapM (m:=Sem) fun f=>Prod.mk f.offset <$> sizeOf f.type).run P w = .ok pl w:=by
   have e:(fun f:Field=>Prod.mk f.offset <$> sizeOf f.type) = (fun f:Field=>(do pure (f.offset,← sizeOf f.type):Sem (Nat × Nat))):=by funext f;simp
   rw [e];exact h3
  unfold Instr.build
  simp [zeroValue,typeInfo,run_underlying (P:=P) (E.un ht),hi,hz,Value.cells,hmm,h2]
 simp only [execOp]
 show Sem.run P (do let v ← Instr.build t ((parts.toArray.map fun (p:Nat × Operand)=>(p.1,a.eval p.2)));pure (Next.value v)) w = _
 rw [List.map_toArray,h1]
 simp [hb]⟩
theorem SO_invoke {f:FuncId} {r:Operand} {nm:String} {xs:List Operand} {ats:Array TypeId} {vs:List Value} {R:Value→World→Prop} {tt:TypeId} {x0 rv:Value} (hr:ev fr r = some (.iface tt x0)) (hv:evs fr xs = some vs)
  (hm:(method (P.types.size + Made.depth) tt x0 nm).run P w = .ok (f,rv) w) (hd:Nat.blt d n.n = true) (hf:Fn P f (rv :: vs) w R)
  (h:∀ v w',R v w'→SO E n Q0 s ops rest ((d,v) :: fr) w') :
  SO E n Q0 s ops (⟨some d,.call ⟨.invoke r nm,xs.toArray,ats⟩,ty,pos,after,none⟩ :: rest) fr w:=by
 refine SO_enter (fun a ha=>?_) hf h (fun _ e=>by cases e;exact hd)
 have h2:(Array.map a.eval xs.toArray) = vs.toArray:=by simp [ha.evs hv]
 have h1:=run_callFunc_fn hf.can (rv :: vs).toArray w
 simp only [execOp,resolve,h2,ha.ev hr]
 have h3:(callMethod (.iface tt x0) nm vs.toArray).run P w = .ok (.enter f (rv :: vs).toArray) w:=by
  unfold callMethod
  simp only [program]
  show Sem.run P ((method (P.types.size + Made.depth) tt x0 nm).bind fun q=>callFunc q.1 (#[q.2] ++ vs.toArray)) w = _
  rw [Sem.run_bind',hm]
  simp only [Result.andThen]
  have : #[rv] ++ vs.toArray = (rv :: vs).toArray:=by simp
  rw [this,h1]
 show Sem.run P (invoke (.fn (.method nm) #[]) (#[.iface tt x0] ++ vs.toArray)) w = _
 simp only [invoke]
 have e1:(#[Value.iface tt x0] ++ vs.toArray)[0]? = some (.iface tt x0):=by simp
 have e2:(#[Value.iface tt x0] ++ vs.toArray).extract 1 (#[Value.iface tt x0] ++ vs.toArray).size = vs.toArray:=by simp
 rw [e1]
 simp only [e2,h3]
/-! ### Slices of slices -/
def slSub:Value→Nat→Nat→Value
 | .slice a _ cap,lo,hi=>.slice (if cap = lo then a else a.map (·.add lo)) (hi - lo) (cap - lo)
 | v,_,_=>v
theorem slSub_block (v:Value) (lo hi:Nat):(slSub v lo hi).ownBlock = v.ownBlock:=by
 cases v <;> try rfl
 rename_i a l c
 cases a with
 | none=>simp [slSub,Value.ownBlock]
 | some a=>
  simp only [slSub]
  split
  ·rfl
  ·simp only [Option.map_some,Value.ownBlock];unfold Addr.add;split <;> rfl
theorem Addr_add_add (a:Addr) (i j:Nat) (h:a.spot = none∨True):(a.add i).add j = a.add (i + j):=by
 unfold Addr.add
 by_cases h1:i = 0
 ·subst h1;simp
 ·by_cases h2:j = 0
  ·subst h2;simp
  ·have:¬ (i + j = 0):=by omega
   simp [h1,h2,this,Nat.add_assoc]
theorem Sl.sub {xs:List Value} (h:Sl w v xs) {lo hi:Nat} (h1:lo ≤ hi) (h2:hi ≤ xs.length):Sl w (slSub v lo hi) ((xs.take hi).drop lo):=by
 obtain ⟨a,cap,rfl,hc1,hc2,hcell⟩:=h
 have hl:((xs.take hi).drop lo).length = hi - lo:=by simp;omega
 refine ⟨if cap = lo then a else a.map (·.add lo),cap - lo,by rw [hl];rfl,by rw [hl];omega,by unfold maxLen at *;omega,fun i c hi'=>?_⟩
 rw [List.getElem?_drop,List.getElem?_take] at hi'
 split at hi'
 ·obtain ⟨ad,rfl,hx⟩:=hcell _ _ hi'
  have hne:¬ cap = lo:=by
   have:=(List.getElem?_eq_some_iff.1 hi').1;omega
  exact ⟨ad.add lo,by simp [hne],by rw [Addr_add_add _ _ _ (.inr trivial)];exact hx⟩
 ·cases hi'
theorem run_slice_sub {xs:List Value} {lo hi:Nat} {k1 k2:IntKind} {l:Option Value} {hh:Option Value} (ht:lk E.und t = some (.slice e)) (he:lk E.inf e = some (z,1,by_)) (hS:Sl w v xs)
  (hl:l = none∧lo = 0∨l = some (.int k1 lo)) (hhi:hh = none∧hi = xs.length∨hh = some (.int k2 hi)) (h1:lo ≤ hi) (h2:hi ≤ xs.length):(Instr.sliceAt t v l hh none).run P w = .ok (slSub v lo hi) w:=by
 obtain ⟨a,cap,rfl,hc1,hc2,hcell⟩:=hS
 obtain ⟨inf,hi',_,hs,_⟩:=E.info he
 have hu:=run_underlying (P:=P) (E.un ht) w
 have hcap:hi ≤ cap:=by omega
 rcases hl with ⟨rfl,rfl⟩ | rfl <;> rcases hhi with ⟨rfl,rfl⟩ | rfl <;>
  simp [Instr.sliceAt,Instr.slice,hu,Instr.sliceBounds,Instr.sliceBound,asIntOf,sizeOf,typeInfo,hi',hs,slSub,h1,h2,hcap,hc1]
theorem R_slice {xs:List Value} {lo hi:Int} {k1 k2:IntKind} (ht:lk E.und t = some (.slice e)) (he:lk E.inf e = some (z,1,by_)) (hx:ev fr x = some v) {l h:Operand} (hl:ev fr l = some (.int k1 lo)) (hh:ev fr h = some (.int k2 hi))
  (hS:Sl w v xs) (hb:0 ≤ lo∧lo ≤ hi∧hi ≤ xs.length):OpV P n fr (.slice t x (some l) (some h) none) ty w (slSub v lo.toNat hi.toNat) w:=⟨fun a ha _ _ _ _=>by
 have:=run_slice_sub (P:=P) (E:=E) (lo:=lo.toNat) (hi:=hi.toNat) (l:=some (.int k1 lo)) (hh:=some (.int k2 hi)) ht he hS (.inr (by rw [Int.toNat_of_nonneg hb.1])) (.inr (by rw [Int.toNat_of_nonneg (by omega)])) (by omega) (by omega)
 simp only [execOp,ha.ev hx]
 simp [ha.ev hl,ha.ev hh,this]⟩
theorem R_sliceLo {xs:List Value} {lo:Int} {k1:IntKind} (ht:lk E.und t = some (.slice e)) (he:lk E.inf e = some (z,1,by_)) (hx:ev fr x = some v) {l:Operand} (hl:ev fr l = some (.int k1 lo))
  (hS:Sl w v xs) (hb:0 ≤ lo∧lo ≤ xs.length):OpV P n fr (.slice t x (some l) none none) ty w (slSub v lo.toNat xs.length) w:=⟨fun a ha _ _ _ _=>by
 have:=run_slice_sub (P:=P) (E:=E) (lo:=lo.toNat) (hi:=xs.length) (l:=some (.int k1 lo)) (hh:=none) (k2:=k1) ht he hS (.inr (by rw [Int.toNat_of_nonneg hb.1])) (.inl ⟨rfl,rfl⟩) (by omega) (by omega)
 simp only [execOp,ha.ev hx]
 simp [ha.ev hl,this]⟩
theorem R_sliceHi {xs:List Value} {hi:Int} {k2:IntKind} (ht:lk E.und t = some (.slice e)) (he:lk E.inf e = some (z,1,by_)) (hx:ev fr x = some v) {h:Operand} (hh:ev fr h = some (.int k2 hi))
  (hS:Sl w v xs) (hb:0 ≤ hi∧hi ≤ xs.length):OpV P n fr (.slice t x none (some h) none) ty w (slSub v 0 hi.toNat) w:=⟨fun a ha _ _ _ _=>by
 have:=run_slice_sub (P:=P) (E:=E) (lo:=0) (hi:=hi.toNat) (l:=none) (hh:=some (.int k2 hi)) (k1:=k2) ht he hS (.inl ⟨rfl,rfl⟩) (.inr (by rw [Int.toNat_of_nonneg hb.1])) (by omega) (by omega)
 simp only [execOp,ha.ev hx]
 simp [ha.ev hh,this]⟩
end
end Go.Art
namespace Go.Art
open Go Go.RowKit
def plus0:Nat→Nat→Nat
 | 0,k=>k
 | o + 1,k=>o + 1 + k
theorem plus0_eq (o k:Nat):plus0 o k = o + k:=by cases o <;> simp [plus0]
def evBin (op:BinOp) (k:IntKind) (a b:Int):Option Value:=
 match op with
 | .add=>some (.int k (k.wrap (a + b)))
 | .sub=>some (.int k (k.wrap (a - b)))
 | .mul=>some (.int k (k.wrap (a * b)))
 | .lss=>some (.bool (decide (a < b)))
 | .leq=>some (.bool (decide (a ≤ b)))
 | .gtr=>some (.bool (decide (b < a)))
 | .geq=>some (.bool (decide (b ≤ a)))
 | .eql=>some (.bool (decide (a = b)))
 | .neq=>some (.bool (!decide (a = b)))
 | _=>none
def sameKind:IntKind→IntKind→Bool
 | .i8,.i8 | .i16,.i16 | .i32,.i32 | .i64,.i64 | .u8,.u8 | .u16,.u16 | .u32,.u32 | .u64,.u64=>true
 | _,_=>false
theorem sameKind_eq {a b:IntKind} (h:sameKind a b = true):a = b:=by cases a <;> cases b <;> first | rfl | (cases h)
def isIface:TypeDesc→Bool
 | .interface _=>true
 | _=>false
def evOp {P:Program} (E:Env P) (fr:Fr):Op→Option Value
 | .move x=>ev fr x
 | .assign x=>ev fr x
 | .pick c a b=>match ev fr c with
  | some (.bool true)=>ev fr a
  | some (.bool false)=>ev fr b
  | _=>none
 | .binOp op _ x y _=>match ev fr x with
  | some (.int k a)=>match ev fr y with
   | some (.int k' b)=>bif sameKind k k' then evBin op k a b else none
   | _=>none
  | _=>none
 | .unOp .not _ x=>match ev fr x with
  | some (.bool b)=>some (.bool (!b))
  | _=>none
 | .unOp .neg _ x=>match ev fr x with
  | some (.int k m)=>some (.int k (k.wrap (0 - m)))
  | _=>none
 | .convert s t x=>match lk E.und t with
  | some (.int k)=>match lk E.und s with
   | some _=>match ev fr x with
    | some (.int _ m)=>some (.int k (k.wrap m))
    | _=>none
   | none=>none
  | _=>none
 | .nilCheck x=>match ev fr x with
  | some (.pointer (some a))=>some (.pointer (some a))
  | _=>none
 | .fieldAddr t x f=>match lk E.und t with
  | some (.struct fs)=>match ev fr x with
   | some (.pointer (some ⟨b,o,none⟩))=>match fs[f]? with
    | some ⟨_,fty,off,_,_,_,_⟩=>match lk E.inf fty with
     | some (_,sz,_)=>bif Nat.beq sz 0 then none else some (.pointer (some ⟨b,plus0 o off,none⟩))
     | none=>none
    | none=>none
   | _=>none
  | _=>none
 | .extract x i=>match ev fr x with
  | some (.tuple vs)=>vs[i]?
  | _=>none
 | .makeInterface t x=>match lk E.und t with
  | some d=>match ev fr x with
   | some v=>bif isIface d then none else some (.iface t v)
   | none=>none
  | none=>none
 | .makeFunc fn first cap=>match evs fr first.toList with
  | some a=>match evs fr cap.toList with
   | some b=>some (.func fn a.toArray b.toArray)
   | none=>none
  | none=>none
 | .build t parts=>match lk E.und t with
  | some (.struct fs)=>match lk E.inf t with
   | some (.agg zs,_,_)=>match places E.inf fs.toList with
    | some pl=>match evps fr parts.toList with
     | some vs=>match setParts pl zs.toList vs with
      | some cs=>some (.agg cs.toArray)
      | none=>none
     | none=>none
    | none=>none
   | _=>none
  | _=>none
 | _=>none
section
variable {P:Program} {E:Env P} {n:Sh} {fr:Fr} {w:World} {ty:TypeId} {v:Value} {o:Op}
theorem R_auto (h:evOp E fr o = some v):OpV P n fr o ty w v w:=by
 cases o with
 | move x=>exact R_move h
 | assign x=>exact R_assign h
 | pick c a b=>
  simp only [evOp] at h
  split at h
  ·exact R_pick_t ‹_› h
  ·exact R_pick_f ‹_› h
  ·cases h
 | binOp op t x y t'=>
  simp only [evOp] at h
  split at h
  ·rename_i k a hx
   split at h
   ·rename_i k' b hy
    cases hk:sameKind k k' with
    | false=>rw [hk,cond_false] at h;cases h
    | true=>
     rw [hk,cond_true] at h
     obtain rfl:=sameKind_eq hk
     cases op <;> simp only [evBin,Option.some.injEq,reduceCtorEq] at h <;> subst h
     ·exact R_add hx hy
     ·exact R_sub hx hy
     ·exact R_mul hx hy
     ·exact R_eql hx hy
     ·exact R_neq hx hy
     ·exact R_lss hx hy
     ·exact R_leq hx hy
     ·exact R_gtr hx hy
     ·exact R_geq hx hy
   ·cases h
  ·cases h
 | unOp u t x=>
  cases u <;> simp only [evOp,reduceCtorEq] at h
  ·split at h
   ·cases h;exact R_neg ‹_›
   ·cases h
  ·split at h
   ·cases h;exact R_not ‹_›
   ·cases h
 | convert s t x=>
  simp only [evOp] at h
  split at h
  ·split at h
   ·split at h
    ·cases h;exact R_conv (E:=E) ‹_› (by simp [*]) ‹_›
    ·cases h
   ·cases h
  ·cases h
 | nilCheck x=>
  simp only [evOp] at h
  split at h
  ·cases h;exact R_nil ‹_›
  ·cases h
 | fieldAddr t x f=>
  simp only [evOp] at h
  split at h
  ·split at h
   ·split at h
    ·split at h
     ·rename_i fs hfs _ b o hx _ nm fty off _ _ _ _ hf _ z sz by_ hi
      cases hz:Nat.beq sz 0 with
      | true=>rw [hz,cond_true] at h;cases h
      | false=>
       rw [hz,cond_false] at h
       cases h
       rw [plus0_eq]
       exact R_fld (E:=E) hfs hf hi hz hx
     ·cases h
    ·cases h
   ·cases h
  ·cases h
 | extract x i=>
  simp only [evOp] at h
  split at h
  ·rename_i vs hx
   exact R_extract (vs:=vs.toList) (by simpa using hx) (by simpa using h)
  ·cases h
 | makeInterface t x=>
  simp only [evOp] at h
  split at h
  ·rename_i d hd
   split at h
   ·cases hi:isIface d with
    | true=>rw [hi,cond_true] at h;cases h
    | false=>
     rw [hi,cond_false] at h
     cases h
     exact R_iface (E:=E) hd (by cases d <;> first | rfl | (cases hi)) ‹_›
   ·cases h
  ·cases h
 | makeFunc fn first cap=>
  simp only [evOp] at h
  split at h
  ·rename_i a ha
   split at h
   ·rename_i b hb
    cases h
    exact ⟨fun ac hac _ _ _ _=>by
     have h1:=hac.evs ha
     have h2:=hac.evs hb
     have e1:first.map ac.eval = a.toArray:=Array.ext' (by rw [Array.toList_map,h1])
     have e2:cap.map ac.eval = b.toArray:=Array.ext' (by rw [Array.toList_map,h2])
     simp only [execOp,e1,e2]
     rfl⟩
   ·cases h
  ·cases h
 | build t parts=>
  simp only [evOp] at h
  split at h
  ·split at h
   ·split at h
    ·split at h
     ·split at h
      ·cases h
       rename_i fs hfs _ zs sz by_ hi _ pl hpl _ vs hvs _ cs hcs
       have:=R_build (P:=P) (E:=E) (n:=n) (fr:=fr) (w:=w) (ty:=ty) (t:=t) (fs:=fs.toList) (zs:=zs.toList) (parts:=parts.toList) (by simpa using hfs) (by simpa using hi) hpl hvs hcs
       simpa using this
      ·cases h
     ·cases h
    ·cases h
   ·cases h
  ·cases h
 | _=>cases h
theorem R_wrap {w':World} {m:Int} (hr:OpV P n fr o ty w (.int .i64 (IntKind.i64.wrap m)) w') (h : -9223372036854775808 ≤ m∧m ≤ 9223372036854775807):OpV P n fr o ty w (I m) w':=by
 rwa [IntWalk.i64_in _ h] at hr
end
section
variable {P:Program} {E:Env P} {n:Sh} {Q0:Exit→Act→World→Prop} {s:List K} {fr:Fr} {w:World} {ops:Array Oper} {rest:List Oper} {d:Nat} {ty:TypeId} {pos:String} {after:Array Edge} {v:Value} {o:Op} {C:World→Prop}
/-! ### Control -/
theorem SX_ret_all:∀ {s:List K},SX E n Q0 [] .ret fr w→SX E n Q0 s .ret fr w
 | [],h=>h
 | .code _ :: _,h=>SX_code_ret (SX_ret_all h)
 | .block _ :: _,h=>SX_block_ret (SX_ret_all h)
 | .loop _ :: _,h=>SX_loop_ret (SX_ret_all h)
theorem SC_r (h:SX E n Q0 [] .ret fr w):SC E n Q0 s .ret fr w:=SC_ret (SX_ret_all h)
def popX (id:Nat):List K→Option (List K)
 | []=>none
 | .block i :: s=>bif Nat.beq id i then some s else popX id s
 | _ :: s=>popX id s
theorem SX_pop {id:Nat}:∀ {s s':List K},popX id s = some s'→SX E n Q0 s' .normal fr w→SX E n Q0 s (.exit id) fr w
 | [],_,h,_=>by cases h
 | .code _ :: s,s',h,k=>SX_code_exit (SX_pop (s:=s) h k)
 | .loop _ :: s,s',h,k=>SX_loop_exit (SX_pop (s:=s) h k)
 | .block i :: s,s',h,k=>by
  simp only [popX] at h
  cases hb:Nat.beq id i with
  | true=>
   rw [hb,cond_true] at h;cases h
   obtain rfl:=Nat.eq_of_beq_eq_true hb
   exact SX_block_hit k
  | false=>
   rw [hb,cond_false] at h
   exact SX_block_miss hb (SX_pop h k)
theorem SC_e {id:Nat} {s':List K} (h:popX id s = some s') (k:SX E n Q0 s' .normal fr w):SC E n Q0 s (.exit id) fr w:=SC_exit (SX_pop h k)
end
end Go.Art
namespace Go.Art
open Go Go.RowKit
def NP (P:Program) (r:Option Nat) (Q0:Exit→Act→World→Prop) (s:List K):Exit→Act→World→Prop:=fun e a w=>(∀ c,e ≠ .panic c)∧den P r Q0 s e a w
def forced (ops:Array Oper):Nat→Array Bool→Option (List Nat)
 | 0,listed=>match Region.ready .any ops listed with
  | []=>some []
  | _=>none
 | fuel + 1,listed=>match Region.ready .any ops listed with
  | []=>some []
  | [i]=>(forced ops fuel (listed.setIfInBounds i true)).map (i :: ·)
  | _=>none
structure SA {P:Program} (_E:Env P) (n:Sh) (Q:Exit→Act→World→Prop) (ops:Array Oper) (fuel:Nat) (listed:Array Bool) (fr:Fr) (w:World):Prop where
 run:∀ a,Holds n a fr→wpAnyIn (FF n.r) 0 P .any ops Q fuel listed a w
section
variable {P:Program} {E:Env P} {n:Sh} {Q0:Exit→Act→World→Prop} {s:List K} {fr:Fr} {w:World} {ops:Array Oper} {d:Nat} {o:Op} {ty:TypeId} {pos:String} {after:Array Edge} {v:Value} {fuel:Nat} {listed:Array Bool}
theorem R_sliceHiA {t e:TypeId} {z:Value} {by_:Nat} {xs:List Value} {hi:Int} {k2:IntKind} {x:Operand} {w0:World} (ht:lk E.und t = some (.slice e)) (he:lk E.inf e = some (z,1,by_)) (hx:ev fr x = some v) {h:Operand} (hh:ev fr h = some (.int k2 hi))
  (hS:Sl w0 v xs) (hb:0 ≤ hi∧hi ≤ xs.length) (w:World):OpV P n fr (.slice t x none (some h) none) ty w (slSub v 0 hi.toNat) w:=⟨fun a ha _ _ _ _=>by
 obtain ⟨a,cap,rfl,hc1,hc2,hcell⟩:=hS
 obtain ⟨inf,hi',_,hs,_⟩:=E.info he
 have hu:=run_underlying (P:=P) (E.un ht) w
 obtain ⟨m,rfl⟩ : ∃ m:Nat,hi = (m:Int):=⟨hi.toNat,by omega⟩
 have h2:m ≤ cap:=by omega
 simp only [execOp,ha.ev hx]
 simp [ha.ev hh,Instr.sliceAt,Instr.slice,hu,Instr.sliceBounds,Instr.sliceBound,asIntOf,sizeOf,typeInfo,hi',hs,slSub,h2,hc1]⟩
end
end Go.Art
namespace Go.Art
open Go Go.RowKit
abbrev dI:TypeDesc:=.int .i64
def updF (f:Int→Option Value) (k:Int) (v:Value):Int→Option Value:=fun k'=>if k' = k then some v else f k'
def delF (f:Int→Option Value) (k:Int):Int→Option Value:=fun k'=>if k' = k then none else f k'
theorem updF_same (f:Int→Option Value) (k:Int) (v:Value):updF f k v k = some v:=if_pos rfl
theorem updF_other (f:Int→Option Value) {k k':Int} (v:Value) (h:k' ≠ k):updF f k v k' = f k':=if_neg h
structure Tells (es:Array MapEntry) (clock:Nat) (f:Int→Option Value):Prop where
 st:MapKept.Stamped es clock
 ks:∀ x ∈ es.toList,MapKept.IsKey dI x.key
 to:∀ k v,f k = some v ↔ ∃ x ∈ es.toList,x.key = I k∧x.val = v
theorem Tells.nil:Tells #[] 0 (fun _=>none):=⟨MapKept.stamped_empty 0,by simp,by simp⟩
theorem Tells.push {es:Array MapEntry} {clock:Nat} {f:Int→Option Value} (h:Tells es clock f) {k:Int} (hk:∀ x ∈ es.toList,x.key ≠ I k) (v:Value) :
  Tells (es.push { key:=I k,val:=v,born:=clock }) (clock + 1) (updF f k v):=by
 refine ⟨MapKept.stamped_push h.st hk,?_,?_⟩
 ·intro x hx
  simp only [Array.toList_push,List.mem_append,List.mem_singleton] at hx
  rcases hx with hx | rfl
  ·exact h.ks x hx
  ·rfl
 ·intro k' v'
  simp only [Array.toList_push,List.mem_append,List.mem_singleton]
  by_cases hkk:k' = k
  ·subst hkk
   rw [updF_same]
   constructor
   ·intro e;cases e;exact ⟨_,.inr rfl,rfl,rfl⟩
   ·rintro ⟨x,hx | rfl,h1,h2⟩
    ·exact absurd h1 (hk x hx)
    ·exact congrArg some h2
  ·rw [updF_other f v hkk,h.to]
   constructor
   ·rintro ⟨x,hx,h1,h2⟩;exact ⟨x,.inl hx,h1,h2⟩
   ·rintro ⟨x,hx | rfl,h1,h2⟩
    ·exact ⟨x,hx,h1,h2⟩
    ·exfalso;injection h1 with _ h1;exact hkk h1.symm
theorem mem_get {es:Array MapEntry} {x:MapEntry}:x ∈ es.toList ↔ ∃ j:Nat,es[j]? = some x:=by
 rw [Array.mem_toList_iff,Array.mem_iff_getElem?]
theorem keys_inj {es:Array MapEntry} (h:(es.toList.map MapEntry.key).Nodup) {i j:Nat} {x y:MapEntry} (hi:es[i]? = some x) (hj:es[j]? = some y) (e:x.key = y.key):i = j:=by
 obtain ⟨hil,rfl⟩:=Array.getElem?_eq_some_iff.1 hi
 obtain ⟨hjl,rfl⟩:=Array.getElem?_eq_some_iff.1 hj
 have:=(List.getElem_inj (i:=i) (j:=j) (xs:=es.toList.map MapEntry.key) (h₀:=by simpa using hil) (h₁:=by simpa using hjl) h).1 (by simpa using e)
 exact this
theorem borns_inj {es:Array MapEntry} (h:(es.toList.map MapEntry.born).Nodup) {i j:Nat} {x y:MapEntry} (hi:es[i]? = some x) (hj:es[j]? = some y) (e:x.born = y.born):i = j:=by
 obtain ⟨hil,rfl⟩:=Array.getElem?_eq_some_iff.1 hi
 obtain ⟨hjl,rfl⟩:=Array.getElem?_eq_some_iff.1 hj
 have:=(List.getElem_inj (i:=i) (j:=j) (xs:=es.toList.map MapEntry.born) (h₀:=by simpa using hil) (h₁:=by simpa using hjl) h).1 (by simpa using e)
 exact this
theorem Tells.set {es:Array MapEntry} {clock:Nat} {f:Int→Option Value} (h:Tells es clock f) {j:Nat} {e:MapEntry} (he:es[j]? = some e) {k:Int} (hek:e.key = I k) (g:MapEntry→MapEntry) (v:Value)
  (hb:∀ x ∈ es.toList,(g x).born = x.born) (hg:g e = { e with val:=v }):Tells (es.modify j g) clock (updF f k v):=by
 have hkey:∀ x ∈ es.toList,es[j]? = some x→(g x).key = x.key:=fun x _ hx=>by rw [he] at hx;cases hx;rw [hg]
 have hkey':∀ x,es[j]? = some x→(g x).key = x.key:=fun x hx=>by rw [he] at hx;cases hx;rw [hg]
 refine ⟨MapKept.stamped_modify h.st j g hb hkey,MapKept.isKey_modify h.ks j g hkey',?_⟩
 intro k' v'
 have hm:∀ x,x ∈ (es.modify j g).toList ↔ (∃ i:Nat,i ≠ j∧es[i]? = some x)∨x = { e with val:=v }:=fun x=>by
  rw [mem_get]
  constructor
  ·rintro ⟨i,hi⟩
   rw [Array.getElem?_modify] at hi
   by_cases hij:j = i
   ·subst hij
    rw [if_pos rfl,he] at hi
    simp only [Option.map_some,Option.some.injEq] at hi
    exact .inr (by rw [← hi,hg])
   ·rw [if_neg hij] at hi
    exact .inl ⟨i,fun q=>hij q.symm,hi⟩
  ·rintro (⟨i,hij,hi⟩ | rfl)
   ·exact ⟨i,by rw [Array.getElem?_modify,if_neg (fun q=>hij q.symm)];exact hi⟩
   ·exact ⟨j,by rw [Array.getElem?_modify,if_pos rfl,he,Option.map_some,hg]⟩
 by_cases hkk:k' = k
 ·subst hkk
  rw [updF_same]
  constructor
  ·intro q;cases q;exact ⟨_,(hm _).2 (.inr rfl),hek,rfl⟩
  ·rintro ⟨x,hx,h1,h2⟩
   rcases (hm x).1 hx with ⟨i,hij,hi⟩ | rfl
   ·exact absurd (keys_inj h.st.2.2 hi he (by rw [h1,hek])) hij
   ·exact congrArg some h2
 ·rw [updF_other f v hkk,h.to]
  constructor
  ·rintro ⟨x,hx,h1,h2⟩
   obtain ⟨i,hi⟩:=mem_get.1 hx
   refine ⟨x,(hm x).2 (.inl ⟨i,fun q=>?_,hi⟩),h1,h2⟩
   subst q
   rw [he] at hi
   cases hi
   rw [hek] at h1
   injection h1 with _ h1
   exact hkk h1.symm
  ·rintro ⟨x,hx,h1,h2⟩
   rcases (hm x).1 hx with ⟨i,hij,hi⟩ | rfl
   ·exact ⟨x,mem_get.2 ⟨i,hi⟩,h1,h2⟩
   ·exfalso
    have h1':e.key = I k':=h1
    rw [hek] at h1'
    injection h1' with _ h1'
    exact hkk h1'.symm
theorem Tells.find {es:Array MapEntry} {clock:Nat} {f:Int→Option Value} (h:Tells es clock f) (k:Int) :
  (Instr.findNow dI (I k) es.toList 0 = some none∧f k = none∧∀ x ∈ es.toList,x.key ≠ I k) ∨
  ∃ j e,Instr.findNow dI (I k) es.toList 0 = some (some (j,e.val))∧es[j]? = some e∧e.key = I k∧f k = some e.val:=by
 rcases MapKept.findNow_spec (d:=dI) (k:=I k) rfl es.toList 0 h.ks with ⟨h1,h2⟩ | ⟨j,e,h1,h2,h3⟩
 ·refine .inl ⟨h1,?_,h2⟩
  cases hf:f k with
  | none=>rfl
  | some v=>
   obtain ⟨x,hx,hxk,_⟩:=(h.to k v).1 hf
   exact absurd hxk (h2 x hx)
 ·have h2':es[j]? = some e:=by rw [← Array.getElem?_toList];exact h2
  exact .inr ⟨j,e,by rw [h1,Nat.zero_add],h2',h3,(h.to k e.val).2 ⟨e,mem_get.2 ⟨j,h2'⟩,h3,rfl⟩⟩
structure MapF (w:World) (b:Nat) (f:Int→Option Value):Prop where
 ex:∃ es clock,w.heap[b]? = some (.map es clock)∧Tells es clock f
structure MapS (w:World) (b:Nat) (f:Int→Option Value) (k:Int) (s:Nat):Prop where
 ex:∃ es clock,w.heap[b]? = some (.map es clock)∧Tells es clock f∧∃ x ∈ es.toList,x.key = I k∧x.born = s
theorem MapF.lt {w:World} {b:Nat} {f:Int→Option Value} (h:MapF w b f):b < w.heap.size:=by
 obtain ⟨es,c,h1,h2⟩:=h.ex
 exact lt_of_heap h1
abbrev mp (b:Nat):Value:=.map (some b)
def setO (w:World) (b:Nat) (o:Obj):World:={ w with heap:=w.heap.setIfInBounds b o }
theorem Upd.setO (w:World) (b:Nat) (o:Obj):Upd w (setO w b o) [b]:=
 ⟨rfl,rfl,rfl,by simp [Art.setO],fun k _ hn=>by
  have:k ≠ b:=fun e=>hn (by simp [e])
  simp [Art.setO,Ne.symm this]⟩
theorem setO_same {w:World} {b:Nat} {o o':Obj} (h:w.heap[b]? = some o):(setO w b o').heap[b]? = some o':=(MapKept.heap_set h).1
section
variable {P:Program} {E:Env P} {n:Sh} {Q0:Exit→Act→World→Prop} {s:List K} {fr:Fr} {w:World} {ops:Array Oper} {rest:List Oper} {d:Nat} {ty:TypeId} {pos:String} {after:Array Edge} {v z:Value} {x y:Operand} {t kt et:TypeId} {b by_ sz:Nat} {f:Int→Option Value} {k:Int}
theorem SO_makeMap (hd:Nat.blt d n.n = true) (h:∀ w',Ext w w'→w'.heap.size = w.heap.size + 1→MapF w' w.heap.size (fun _=>none)→SO E n Q0 s ops rest ((d,mp w.heap.size) :: fr) w') :
  SO E n Q0 s ops (⟨some d,.makeMap t none,ty,pos,after,none⟩ :: rest) fr w:=by
 refine SO_v hd (w':=w.alloc (.map #[] 0)) ⟨fun a _ _ _ _ _=>?_⟩ (h _ (Upd.alloc w _) (by simp) ⟨_,_,heap_alloc_new w _,Tells.nil⟩)
 simp [execOp,Instr.makeMap,newObj,Sem.run]
theorem R_lookS (ht:lk E.und t = some (.map kt et)) (hk:lk E.und kt = some dI) (hx:ev fr x = some (mp b)) (hy:ev fr y = some (I k)) (hM:MapF w b f) (hf:f k = some v) :
  OpV P n fr (.lookup t x y true) ty w (.tuple #[v,.bool true]) w:=⟨fun a ha _ _ _ _=>by
 obtain ⟨es,c,hb,hT⟩:=hM.ex
 rcases hT.find k with ⟨_,h2,_⟩ | ⟨j,e,h1,h2,h3,h4⟩
 ·rw [h2] at hf;cases hf
 ·rw [h4] at hf;cases hf
  simp only [execOp,ha.ev hx,ha.ev hy]
  simp [Instr.lookup,run_underlying (P:=P) (E.un ht),MapKept.run_getObj_map hb,MapKept.run_checkKey (E.un hk) (show MapKept.IsKey dI (I k) from rfl),MapKept.run_findKey (E.un hk) h1]⟩
theorem R_lookN (ht:lk E.und t = some (.map kt et)) (hk:lk E.und kt = some dI) (he:lk E.inf et = some (z,sz,by_)) (hx:ev fr x = some (mp b)) (hy:ev fr y = some (I k)) (hM:MapF w b f) (hf:f k = none) :
  OpV P n fr (.lookup t x y true) ty w (.tuple #[z,.bool false]) w:=⟨fun a ha _ _ _ _=>by
 obtain ⟨es,c,hb,hT⟩:=hM.ex
 obtain ⟨inf,hi,hz,_,_⟩:=E.info he
 rcases hT.find k with ⟨h1,_,_⟩ | ⟨j,e,h1,h2,h3,h4⟩
 ·simp only [execOp,ha.ev hx,ha.ev hy]
  simp [Instr.lookup,run_underlying (P:=P) (E.un ht),MapKept.run_getObj_map hb,MapKept.run_checkKey (E.un hk) (show MapKept.IsKey dI (I k) from rfl),MapKept.run_findKey (E.un hk) h1,zeroValue,typeInfo,hi,hz]
 ·rw [h4] at hf;cases hf⟩
theorem SO_mapUpdate {u:Operand} (ht:lk E.und t = some (.map kt et)) (hk:lk E.und kt = some dI) (hx:ev fr x = some (mp b)) (hy:ev fr y = some (I k)) (hu:ev fr u = some v) (hM:MapF w b f)
  (h:∀ w',Upd w w' [b]→MapF w' b (updF f k v)→SO E n Q0 s ops rest fr w') :
  SO E n Q0 s ops (⟨none,.mapUpdate t x y u,ty,pos,after,none⟩ :: rest) fr w:=by
 obtain ⟨es,c,hb,hT⟩:=hM.ex
 have hK:MapKept.IsKey dI (I k):=rfl
 rcases hT.find k with ⟨h1,_,h2⟩ | ⟨j,e,h1,h2,h3,h4⟩
 ·refine SO_u (w':=setO w b (.map (es.push { key:=I k,val:=v,born:=c }) (c + 1))) ⟨fun a ha _ _ _ _=>?_⟩ (h _ (Upd.setO w b _) ⟨_,_,setO_same hb,hT.push h2 v⟩)
  simp only [execOp,ha.ev hx,ha.ev hy,ha.ev hu]
  simp [Instr.mapUpdate,run_underlying (P:=P) (E.un ht),MapKept.run_getObj_map hb,MapKept.run_checkKey (E.un hk) hK,MapKept.run_findKey (E.un hk) h1,MapKept.run_setObj_map _ hb]
  rfl
 ·refine SO_u (w':=setO w b (.map (es.modify j fun e=>{ e with key:=I k,val:=v }) c)) ⟨fun a ha _ _ _ _=>?_⟩
   (h _ (Upd.setO w b _) ⟨_,_,setO_same hb,hT.set h2 h3 _ v (fun _ _=>rfl) (by rw [← h3])⟩)
  simp only [execOp,ha.ev hx,ha.ev hy,ha.ev hu]
  simp [Instr.mapUpdate,run_underlying (P:=P) (E.un ht),MapKept.run_getObj_map hb,MapKept.run_checkKey (E.un hk) hK,MapKept.run_findKey (E.un hk) h1,MapKept.run_setObj_map _ hb,h2,h3,MapKept.run_keyThatStays hK]
  rfl
theorem SO_mapEntry (hd:Nat.blt d n.n = true) (ht:lk E.und t = some (.map kt et)) (hk:lk E.und kt = some dI) (he:lk E.inf et = some (z,sz,by_)) (hx:ev fr x = some (mp b)) (hy:ev fr y = some (I k)) (hM:MapF w b f)
  (h:∀ w' st,Upd w w' [b]→MapS w' b (updF f k ((f k).getD z)) k st→SO E n Q0 s ops rest ((d,.tuple #[(f k).getD z,I st]) :: fr) w') :
  SO E n Q0 s ops (⟨some d,.mapEntry t x y,ty,pos,after,none⟩ :: rest) fr w:=by
 obtain ⟨es,c,hb,hT⟩:=hM.ex
 obtain ⟨inf,hi,hz,_,_⟩:=E.info he
 have hK:MapKept.IsKey dI (I k):=rfl
 rcases hT.find k with ⟨h1,h1',h2⟩ | ⟨j,e,h1,h2,h3,h4⟩
 ·rw [h1'] at h
  refine SO_v hd (w':=setO w b (.map (es.push { key:=I k,val:=z,born:=c }) (c + 1))) ⟨fun a ha _ _ _ _=>?_⟩ (h _ c (Upd.setO w b _) ⟨_,_,setO_same hb,hT.push h2 z,{ key:=I k,val:=z,born:=c },by simp,rfl,rfl⟩)
  simp only [execOp,ha.ev hx,ha.ev hy]
  simp [Instr.mapEntry,run_underlying (P:=P) (E.un ht),MapKept.run_getObj_map hb,MapKept.run_checkKey (E.un hk) hK,MapKept.run_findKey (E.un hk) h1,MapKept.run_setObj_map _ hb,zeroValue,typeInfo,hi,hz]
  first | rfl | exact ⟨rfl,rfl⟩
 ·rw [h4] at h
  refine SO_v hd (w':=setO w b (.map (es.modify j fun e=>{ e with key:=I k }) c)) ⟨fun a ha _ _ _ _=>?_⟩
   (h _ e.born (Upd.setO w b _) ⟨_,_,setO_same hb,hT.set h2 h3 _ e.val (fun _ _=>rfl) (by rw [← h3]),{ e with key:=I k },mem_get.2 ⟨j,by rw [Array.getElem?_modify,if_pos rfl,h2];rfl⟩,rfl,rfl⟩)
  simp only [execOp,ha.ev hx,ha.ev hy]
  simp [Instr.mapEntry,run_underlying (P:=P) (E.un ht),MapKept.run_getObj_map hb,MapKept.run_checkKey (E.un hk) hK,MapKept.run_findKey (E.un hk) h1,MapKept.run_setObj_map _ hb,h2,h3,MapKept.run_keyThatStays hK]
  first | rfl | exact ⟨rfl,rfl⟩
theorem SO_entryStore {u:Operand} {st:Nat} (hx:ev fr x = some (mp b)) (hy:ev fr y = some (I st)) (hu:ev fr u = some v) (hM:MapS w b f k st)
  (h:∀ w',Upd w w' [b]→MapF w' b (updF f k v)→SO E n Q0 s ops rest fr w') :
  SO E n Q0 s ops (⟨none,.entryStore t x y u,ty,pos,after,none⟩ :: rest) fr w:=by
 obtain ⟨es,c,hb,hT,e,he,hek,heb⟩:=hM.ex
 obtain ⟨j,hj⟩:=mem_get.1 he
 have hfi:es.findIdx? (fun e=>(e.born:Int) == (st:Int)) = some j:=by
  obtain ⟨hjl,hje⟩:=Array.getElem?_eq_some_iff.1 hj
  rw [Array.findIdx?_eq_some_iff_getElem]
  refine ⟨hjl,by rw [hje,heb];simp,fun i hij q=>?_⟩
  have hil:i < es.size:=by omega
  have h1:es[i]? = some es[i]:=Array.getElem?_eq_getElem hil
  have h2:es[i].born = e.born:=by
   simp at q
   omega
  have:=borns_inj hT.st.2.1 h1 hj h2
  omega
 refine SO_u (w':=setO w b (.map (es.modify j fun e=>{ e with val:=v }) c)) ⟨fun a ha _ _ _ _=>?_⟩
  (h _ (Upd.setO w b _) ⟨_,_,setO_same hb,hT.set hj hek _ v (fun _ _=>rfl) rfl⟩)
 simp only [execOp,ha.ev hx,ha.ev hy,ha.ev hu]
 simp [Instr.entryStore,MapKept.run_getObj_map hb,asInt,asIntOf,hfi,MapKept.run_setObj_map _ hb]
 rfl
end
end Go.Art
namespace Go.Art
open Go Go.RowKit
structure Ch where
 wr:Nat→Prop
 rd:Nat→Prop
 bd:Nat→Prop
 P:World→Prop
 loc:∀ {w w':World},P w→(∀ b,wr b∨rd b∨bd b→w'.heap[b]? = w.heap[b]?)→P w'
 lt:∀ {w:World} {b:Nat},P w→wr b∨rd b∨bd b→b < w.heap.size
def Ch.ft (c:Ch) (b:Nat):Prop:=c.wr b∨c.rd b∨c.bd b
def Ap (c d:Ch):Prop:=(∀ b,c.wr b→¬ d.ft b)∧∀ b,d.wr b→¬ c.ft b
theorem Ap.symm {c d:Ch} (h:Ap c d):Ap d c:=⟨h.2,h.1⟩
theorem Ap.of {c d:Ch} (hc:∀ b,¬ c.wr b) (hd:∀ b,d.wr b→¬ c.ft b):Ap c d:=⟨fun b h=>absurd h (hc b),hd⟩
structure Sat (A:List Ch) (w:World):Prop where
 ap:A.Pairwise Ap
 h:∀ c ∈ A,c.P w
def wrs (A:List Ch) (b:Nat):Prop:=∃ c ∈ A,c.wr b
def rds (A:List Ch) (b:Nat):Prop:=∃ c ∈ A,c.rd b
def fts (A:List Ch) (b:Nat):Prop:=∃ c ∈ A,c.ft b
theorem wrs.ft {A:List Ch} {b:Nat} (h:wrs A b):fts A b:=by obtain ⟨c,hc,h⟩:=h;exact ⟨c,hc,.inl h⟩
theorem rds.ft {A:List Ch} {b:Nat} (h:rds A b):fts A b:=by obtain ⟨c,hc,h⟩:=h;exact ⟨c,hc,.inr (.inl h)⟩
theorem wrs_nil {b:Nat}:¬ wrs [] b:=by rintro ⟨c,hc,_⟩;cases hc
theorem rds_nil {b:Nat}:¬ rds [] b:=by rintro ⟨c,hc,_⟩;cases hc
theorem wrs_app {A B:List Ch} {b:Nat}:wrs (A ++ B) b ↔ wrs A b∨wrs B b:=by
 simp only [wrs,List.mem_append];constructor
 ·rintro ⟨c,hc | hc,h⟩;exact .inl ⟨c,hc,h⟩;exact .inr ⟨c,hc,h⟩
 ·rintro (⟨c,hc,h⟩ | ⟨c,hc,h⟩);exact ⟨c,.inl hc,h⟩;exact ⟨c,.inr hc,h⟩
theorem rds_app {A B:List Ch} {b:Nat}:rds (A ++ B) b ↔ rds A b∨rds B b:=by
 simp only [rds,List.mem_append];constructor
 ·rintro ⟨c,hc | hc,h⟩;exact .inl ⟨c,hc,h⟩;exact .inr ⟨c,hc,h⟩
 ·rintro (⟨c,hc,h⟩ | ⟨c,hc,h⟩);exact ⟨c,.inl hc,h⟩;exact ⟨c,.inr hc,h⟩
theorem fts_app {A B:List Ch} {b:Nat}:fts (A ++ B) b ↔ fts A b∨fts B b:=by
 simp only [fts,List.mem_append];constructor
 ·rintro ⟨c,hc | hc,h⟩;exact .inl ⟨c,hc,h⟩;exact .inr ⟨c,hc,h⟩
 ·rintro (⟨c,hc,h⟩ | ⟨c,hc,h⟩);exact ⟨c,.inl hc,h⟩;exact ⟨c,.inr hc,h⟩
theorem wrs_one {c:Ch} {b:Nat}:wrs [c] b ↔ c.wr b:=by simp [wrs]
theorem rds_one {c:Ch} {b:Nat}:rds [c] b ↔ c.rd b:=by simp [rds]
theorem Sat.nil (w:World):Sat [] w:=⟨.nil,by simp⟩
theorem Sat.perm {A B:List Ch} {w:World} (h:Sat A w) (p:A.Perm B):Sat B w:=⟨(p.pairwise_iff Ap.symm).1 h.ap,fun c hc=>h.h c (p.mem_iff.2 hc)⟩
theorem Sat.app {A B:List Ch} {w:World}:Sat (A ++ B) w ↔ Sat A w∧Sat B w∧∀ a ∈ A,∀ b ∈ B,Ap a b:=by
 constructor
 ·intro h
  obtain ⟨h1,h2,h3⟩:=List.pairwise_append.1 h.ap
  exact ⟨⟨h1,fun c hc=>h.h c (by simp [hc])⟩,⟨h2,fun c hc=>h.h c (by simp [hc])⟩,h3⟩
 ·rintro ⟨h1,h2,h3⟩
  exact ⟨List.pairwise_append.2 ⟨h1.ap,h2.ap,h3⟩,fun c hc=>by rcases List.mem_append.1 hc with h | h;exact h1.h c h;exact h2.h c h⟩
theorem Sat.cons {c:Ch} {A:List Ch} {w:World}:Sat (c :: A) w ↔ c.P w∧(∀ a ∈ A,Ap c a)∧Sat A w:=by
 constructor
 ·intro h
  obtain ⟨h1,h2⟩:=List.pairwise_cons.1 h.ap
  exact ⟨h.h c (by simp),h1,h2,fun d hd=>h.h d (by simp [hd])⟩
 ·rintro ⟨h1,h2,h3⟩
  exact ⟨List.pairwise_cons.2 ⟨h2,h3.ap⟩,fun d hd=>by rcases List.mem_cons.1 hd with rfl | h;exact h1;exact h3.h d h⟩
theorem Sat.one {c:Ch} {w:World} (h:c.P w):Sat [c] w:=Sat.cons.2 ⟨h,by simp,Sat.nil w⟩
theorem Sat.lt {A:List Ch} {w:World} (h:Sat A w) {b:Nat} (hb:fts A b):b < w.heap.size:=by
 obtain ⟨c,hc,hb⟩:=hb;exact c.lt (h.h c hc) hb
theorem ap_fts {A F:List Ch} (h:∀ a ∈ A,∀ f ∈ F,Ap a f) {b:Nat} (ha:wrs A b) (hf:fts F b):False:=by
 obtain ⟨a,ha,hab⟩:=ha;obtain ⟨f,hf,hfb⟩:=hf;exact (h a ha f hf).1 b hab hfb
theorem ap_stf {A F:List Ch} (h:∀ a ∈ A,∀ f ∈ F,Ap a f) {b:Nat} (ha:fts A b) (hf:wrs F b):False:=by
 obtain ⟨a,ha,hab⟩:=ha;obtain ⟨f,hf,hfb⟩:=hf;exact (h a ha f hf).2 b hfb hab
structure Mv (w:World) (A:List Ch) (w':World) (B:List Ch):Prop where
 os:w'.os = w.os
 tape:w'.tape = w.tape
 output:w'.output = w.output
 size:w.heap.size ≤ w'.heap.size
 block:∀ k,k < w.heap.size→¬ wrs A k→w'.heap[k]? = w.heap[k]?
 wr:∀ b,wrs B b→wrs A b∨w.heap.size ≤ b
 rd:∀ b,rds B b→wrs A b∨rds A b∨w.heap.size ≤ b
theorem Mv.refl (w:World) (A:List Ch):Mv w A w A:=⟨rfl,rfl,rfl,Nat.le_refl _,fun _ _ _=>rfl,fun _ h=>.inl h,fun _ h=>.inr (.inl h)⟩
theorem Mv.trans {w0 w w':World} {A0 A B:List Ch} (h:Mv w0 A0 w A) (k:Mv w A w' B):Mv w0 A0 w' B where
 os:=k.os.trans h.os
 tape:=k.tape.trans h.tape
 output:=k.output.trans h.output
 size:=Nat.le_trans h.size k.size
 block:=fun i hi hn=>(k.block i (Nat.lt_of_lt_of_le hi h.size) (fun hw=>by rcases h.wr i hw with h1 | h1;exact hn h1;omega)).trans (h.block i hi hn)
 wr:=fun b hb=>by
  rcases k.wr b hb with h1 | h1
  ·exact h.wr b h1
  ·have:=h.size;exact .inr (by omega)
 rd:=fun b hb=>by
  have:=h.size
  rcases k.rd b hb with h1 | h1 | h1
  ·rcases h.wr b h1 with h2 | h2;exact .inl h2;exact .inr (.inr h2)
  ·exact h.rd b h1
  ·exact .inr (.inr (by omega))
theorem Mv.upd {w w':World} {S:List Nat} {A B:List Ch} (u:Upd w w' S) (hS:∀ b ∈ S,wrs A b∨w.heap.size ≤ b) (h1:∀ b,wrs B b→wrs A b∨w.heap.size ≤ b) (h2:∀ b,rds B b→wrs A b∨rds A b∨w.heap.size ≤ b):Mv w A w' B:=
 ⟨u.os,u.tape,u.output,u.size,fun k hk hn=>u.block k hk (fun hm=>by rcases hS k hm with h | h;exact hn h;omega),h1,h2⟩
theorem Mv.frame {w w':World} {A B F:List Ch} (h:Mv w A w' B) (hs:Sat (A ++ F) w) (hb:Sat B w') (nb:∀ c ∈ B,∀ b,¬ c.bd b):Sat (B ++ F) w'∧Mv w (A ++ F) w' (B ++ F):=by
 obtain ⟨hA,hF,hAF⟩:=Sat.app.1 hs
 have hB:∀ {b},fts B b→wrs B b∨rds B b:=by
  rintro b ⟨c,hc,h1 | h1 | h1⟩
  ·exact .inl ⟨c,hc,h1⟩
  ·exact .inr ⟨c,hc,h1⟩
  ·exact absurd h1 (nb c hc b)
 have hw:∀ {b},wrs B b→fts F b→False:=fun h1 h2=>by
  rcases h.wr _ h1 with h3 | h3
  ·exact ap_fts hAF h3 h2
  ·have:=hF.lt h2;omega
 have hf:∀ {b},fts B b→wrs F b→False:=fun h1 h2=>by
  rcases hB h1 with h3 | h3
  ·exact hw h3 h2.ft
  ·rcases h.rd _ h3 with h4 | h4 | h4
   ·exact ap_fts hAF h4 h2.ft
   ·exact ap_stf hAF h4.ft h2
   ·have:=hF.lt h2.ft;omega
 refine ⟨Sat.app.2 ⟨hb,⟨hF.ap,fun c hc=>c.loc (hF.h c hc) fun b hcb=>h.block b (c.lt (hF.h c hc) hcb) fun hwr=>ap_fts hAF hwr ⟨c,hc,hcb⟩⟩,fun a ha f hf'=>⟨fun b h1 h2=>hw ⟨a,ha,h1⟩ ⟨f,hf',h2⟩,fun b h1 h2=>hf ⟨a,ha,h2⟩ ⟨f,hf',h1⟩⟩⟩,h.os,h.tape,h.output,h.size,fun k hk hn=>h.block k hk (fun h1=>hn (wrs_app.2 (.inl h1))),?_,?_⟩
 ·intro b hb'
  rcases wrs_app.1 hb' with h1 | h1
  ·rcases h.wr b h1 with h2 | h2;exact .inl (wrs_app.2 (.inl h2));exact .inr h2
  ·exact .inl (wrs_app.2 (.inr h1))
 ·intro b hb'
  rcases rds_app.1 hb' with h1 | h1
  ·rcases h.rd b h1 with h2 | h2 | h2
   ·exact .inl (wrs_app.2 (.inl h2))
   ·exact .inr (.inl (rds_app.2 (.inl h2)))
   ·exact .inr (.inr h2)
  ·exact .inr (.inl (rds_app.2 (.inr h1)))
theorem Mv.of_ext {w w':World} (u:Ext w w') (A:List Ch):Mv w A w' A:=Mv.upd u (by simp) (fun _ h=>.inl h) (fun _ h=>.inr (.inl h))
structure Im (A B:List Ch):Prop where
 sat:∀ w,Sat A w→Sat B w
 wr:∀ b,wrs B b→wrs A b
 rd:∀ b,rds B b→wrs A b∨rds A b
 ft:∀ b,fts B b→fts A b
theorem Im.refl (A:List Ch):Im A A:=⟨fun _ h=>h,fun _ h=>h,fun _ h=>.inr h,fun _ h=>h⟩
theorem Im.trans {A B D:List Ch} (h:Im A B) (k:Im B D):Im A D:=⟨fun w hw=>k.sat w (h.sat w hw),fun b hb=>h.wr b (k.wr b hb),fun b hb=>by
 rcases k.rd b hb with h1 | h1;exact .inl (h.wr b h1);exact h.rd b h1,fun b hb=>h.ft b (k.ft b hb)⟩
theorem Im.perm {A B:List Ch} (p:A.Perm B):Im A B:=⟨fun _ h=>h.perm p,fun _ ⟨c,hc,h⟩=>⟨c,p.mem_iff.2 hc,h⟩,fun _ ⟨c,hc,h⟩=>.inr ⟨c,p.mem_iff.2 hc,h⟩,fun _ ⟨c,hc,h⟩=>⟨c,p.mem_iff.2 hc,h⟩⟩
theorem Im.cons (c:Ch) {A B:List Ch} (h:Im A B):Im (c :: A) (c :: B):=by
 refine ⟨fun w hw=>?_,fun b hb=>?_,fun b hb=>?_,fun b hb=>?_⟩
 ·obtain ⟨h1,h2,h3⟩:=Sat.cons.1 hw
  refine Sat.cons.2 ⟨h1,fun x hx=>⟨fun b hb hf=>?_,fun b hb hf=>?_⟩,h.sat w h3⟩
  ·obtain ⟨a,ha,haf⟩:=h.ft b ⟨x,hx,hf⟩
   exact (h2 a ha).1 b hb haf
  ·obtain ⟨a,ha,haf⟩:=h.wr b ⟨x,hx,hb⟩
   exact (h2 a ha).2 b haf hf
 ·obtain ⟨x,hx,hb⟩:=hb
  rcases List.mem_cons.1 hx with rfl | hx
  ·exact ⟨x,by simp,hb⟩
  ·obtain ⟨a,ha,hab⟩:=h.wr b ⟨x,hx,hb⟩;exact ⟨a,by simp [ha],hab⟩
 ·obtain ⟨x,hx,hb⟩:=hb
  rcases List.mem_cons.1 hx with rfl | hx
  ·exact .inr ⟨x,by simp,hb⟩
  ·rcases h.rd b ⟨x,hx,hb⟩ with ⟨a,ha,hab⟩ | ⟨a,ha,hab⟩
   ·exact .inl ⟨a,by simp [ha],hab⟩
   ·exact .inr ⟨a,by simp [ha],hab⟩
 ·obtain ⟨x,hx,hb⟩:=hb
  rcases List.mem_cons.1 hx with rfl | hx
  ·exact ⟨x,by simp,hb⟩
  ·obtain ⟨a,ha,hab⟩:=h.ft b ⟨x,hx,hb⟩;exact ⟨a,by simp [ha],hab⟩
theorem Im.drop (B F:List Ch):Im (B ++ F) B:=⟨fun _ h=>(Sat.app.1 h).1,fun _ h=>wrs_app.2 (.inl h),fun _ h=>.inr (rds_app.2 (.inl h)),fun _ h=>fts_app.2 (.inl h)⟩
abbrev Tk (c:Ch) (A A':List Ch):Prop:=Im A (c :: A')
theorem Tk.here {c:Ch} {A:List Ch}:Tk c (c :: A) A:=Im.refl _
theorem Tk.there {c d:Ch} {A A':List Ch} (h:Tk c A A'):Tk c (d :: A) (d :: A'):=Im.trans (Im.cons d h) (Im.perm (List.Perm.swap _ _ _))
structure Im1 (c d:Ch):Prop where
 P:∀ w,c.P w→d.P w
 wr:∀ b,d.wr b→c.wr b
 rd:∀ b,d.rd b→c.wr b∨c.rd b
 ft:∀ b,d.ft b→c.ft b
theorem Im1.im {c d:Ch} (h:Im1 c d) (A:List Ch):Im (c :: A) (d :: A):=by
 refine ⟨fun w hw=>?_,fun b hb=>?_,fun b hb=>?_,fun b hb=>?_⟩
 ·obtain ⟨h1,h2,h3⟩:=Sat.cons.1 hw
  exact Sat.cons.2 ⟨h.P w h1,fun a ha=>⟨fun b hb=>(h2 a ha).1 b (h.wr b hb),fun b hb hf=>(h2 a ha).2 b hb (h.ft b hf)⟩,h3⟩
 ·obtain ⟨x,hx,hb⟩:=hb
  rcases List.mem_cons.1 hx with rfl | hx
  ·exact ⟨c,by simp,h.wr b hb⟩
  ·exact ⟨x,by simp [hx],hb⟩
 ·obtain ⟨x,hx,hb⟩:=hb
  rcases List.mem_cons.1 hx with rfl | hx
  ·rcases h.rd b hb with h1 | h1;exact .inl ⟨c,by simp,h1⟩;exact .inr ⟨c,by simp,h1⟩
  ·exact .inr ⟨x,by simp [hx],hb⟩
 ·obtain ⟨x,hx,hb⟩:=hb
  rcases List.mem_cons.1 hx with rfl | hx
  ·exact ⟨c,by simp,h.ft b hb⟩
  ·exact ⟨x,by simp [hx],hb⟩
def Fit (A B F:List Ch):Prop:=Im A (B ++ F)
theorem Fit.nil {A:List Ch}:Fit A [] A:=Im.refl _
theorem Fit.nilN {A A':List Ch} (h:A = A'):Fit A [] A':=by subst h;exact Fit.nil
theorem nrm_nil:([]:List Ch) = []:=rfl
theorem nrm_cons {d:Ch} {A A':List Ch} (h:A = A'):d :: A = d :: A':=by rw [h]
theorem nrm_rfl {A:List Ch}:A = A:=rfl
theorem Fit.all {A:List Ch}:Fit A A []:=by unfold Fit;rw [List.append_nil];exact Im.refl _
theorem Fit.cons {c:Ch} {A A' B F:List Ch} (h:Tk c A A') (k:Fit A' B F):Fit A (c :: B) F:=Im.trans h (Im.cons c k)
structure Has (F:List Ch) (c:Ch):Prop where
 P:∀ w,Sat F w→c.P w
 wr:∀ b,¬ c.wr b
 rd:∀ b,¬ c.rd b
 ft:∀ b,c.ft b→fts F b
theorem lend {pre A F:List Ch} {w:World} (h:Sat (A ++ F) w) (hp:∀ c ∈ pre,Has F c):Sat (pre ++ A) w:=by
 obtain ⟨hA,hF,hAF⟩:=Sat.app.1 h
 refine Sat.app.2 ⟨⟨List.pairwise_of_forall_mem_list fun c hc d hd=>Ap.of (hp c hc).wr fun b hb=>absurd hb ((hp d hd).wr b),fun c hc=>(hp c hc).P w hF⟩,hA,fun c hc a ha=>Ap.of (hp c hc).wr fun b hb hcb=>?_⟩
 obtain ⟨f,hf,hfb⟩:=(hp c hc).ft b hcb
 exact (hAF a ha f hf).1 b hb hfb
/-! ### A slice that owns its cells, wherever in their block it begins -/
def OwnO (w:World) (e:TypeId) (v:Value) (xs:List Value):Prop:=
 (v = .slice none 0 0∧xs = []) ∨
 ∃ b o cap cur,v = .slice (some ⟨b,o,none⟩) xs.length cap∧w.heap[b]? = some (.cells cur e (0,0))∧xs.length ≤ cap∧cap ≤ maxLen∧o + cap ≤ cur.size∧(cur.toList.drop o).take xs.length = xs
theorem OwnO.of {w:World} {e:TypeId} {g:Option Nat} {v:Value} {xs:List Value} (h:Own w e g v xs):OwnO w e v xs:=by
 rcases h with ⟨_,h1,h2⟩ | ⟨b,cap,cur,_,h1,h2,h3,h4,h5,h6⟩
 ·exact .inl ⟨h1,h2⟩
 ·exact .inr ⟨b,0,cap,cur,h1,h2,h3,h4,by omega,by simpa using h6⟩
theorem OwnO.sl {w:World} {e:TypeId} {v:Value} {xs:List Value} (h:OwnO w e v xs):Sl w v xs:=by
 rcases h with ⟨rfl,rfl⟩ | ⟨b,o,cap,cur,rfl,hb,h1,h2,h3,h4⟩
 ·exact Sl.nil w
 ·refine ⟨_,cap,rfl,h1,h2,fun i u hi=>⟨_,rfl,?_⟩⟩
  rw [Addr.add_lit,cell_of_row w b (o + i) cur e (0,0) hb]
  rw [← h4,List.getElem?_take] at hi
  split at hi
  ·rw [List.getElem?_drop] at hi;simpa using hi
  ·cases hi
theorem OwnO.blt {w:World} {e:TypeId} {v:Value} {xs:List Value} (h:OwnO w e v xs) {b:Nat} (hb:v.ownBlock = some b):b < w.heap.size:=by
 rcases h with ⟨rfl,rfl⟩ | ⟨b',o,cap,cur,rfl,h2,_⟩
 ·cases hb
 ·cases hb;exact lt_of_heap h2
theorem OwnO.keep {w w':World} {e:TypeId} {v:Value} {xs:List Value} (h:OwnO w e v xs) (hb:∀ b,v.ownBlock = some b→w'.heap[b]? = w.heap[b]?):OwnO w' e v xs:=by
 rcases h with h | ⟨b,o,cap,cur,rfl,h2,h3⟩
 ·exact .inl h
 ·exact .inr ⟨b,o,cap,cur,rfl,(hb b rfl).trans h2,h3⟩
theorem OwnO.sub {w:World} {e:TypeId} {v:Value} {xs:List Value} (h:OwnO w e v xs) {lo hi:Nat} (h1:lo ≤ hi) (h2:hi ≤ xs.length):OwnO w e (slSub v lo hi) ((xs.take hi).drop lo):=by
 have hl:((xs.take hi).drop lo).length = hi - lo:=by simp;omega
 rcases h with ⟨rfl,rfl⟩ | ⟨b,o,cap,cur,rfl,hb,h3,h4,h5,h6⟩
 ·simp at h2;subst h2;obtain rfl:lo = 0:=by omega
  exact .inl ⟨rfl,rfl⟩
 ·refine .inr ⟨b,if cap = lo then o else o + lo,cap - lo,cur,?_,hb,by rw [hl];omega,by omega,by split <;> omega,?_⟩
  ·rw [hl];simp only [slSub];split
   ·rfl
   ·simp [Addr.add_lit]
  ·rw [hl]
   by_cases e:hi - lo = 0
   ·rw [e,List.take_zero];symm;apply List.eq_nil_of_length_eq_zero;omega
   ·rw [if_neg (by omega),← List.drop_drop]
    conv=>rhs;rw [← h6]
    rw [List.take_take,Nat.min_eq_left h2,List.drop_take]
section
variable {P:Program} {E:Env P} {n:Sh} {Q0:Exit→Act→World→Prop} {s:List K} {fr:Fr} {w:World} {ops:Array Oper} {rest:List Oper} {d:Nat} {ty t e:TypeId} {pos:String} {after:Array Edge} {v u z:Value} {x y:Operand} {by_:Nat}
theorem run_append_roomO (w:World) (t ty e:TypeId) (i:TypeInfo) (ht:P.underlying t = some (.slice e)) (hi:P.info? e = some i)
  (g o sLen sCap:Nat) (cur:Array Value) (hg:w.heap[g]? = some (.cells cur e (0,0)))
  (a:Addr) (m c:Nat) (news:List Value) (hl:news.length = m * i.size) (hnews:∀ j u,news[j]? = some u→w.cell? (a.add j) = some u) (h1:∀ u ∈ news,u.oneCell' = true)
  (hroom:sLen + m ≤ sCap) (hfit:o + sLen * i.size + news.length ≤ cur.size) :
  (Builtin.append_ #[t,t] ty #[.slice (some ⟨g,o,none⟩) sLen sCap,.slice (some a) m c]).run P w =
   .ok (.slice (some ⟨g,o,none⟩) (sLen + m) sCap) (w.setRow g (cur.toList.take (o + sLen * i.size) ++ news ++ cur.toList.drop (o + sLen * i.size + news.length)).toArray):=by
 have hf:=run_firstCells_some (P:=P) w i.size m a m c news hl hnews
 have hst:=run_storeCells_at P g (o + sLen * i.size) e news 0 cur w hg (by simpa using hfit) h1
 simp only [Nat.add_zero] at hst
 simp [Builtin.append_,run_underlying ht,sizeOf,typeInfo,hi,Builtin.lenOf,hroom,hf,Addr.add_lit,hst]
theorem run_appendO (t':TypeId) (w:World) (ht:lk E.und t = some (.slice e)) (he:lk E.inf e = some (z,1,by_)) (hz:z.cells.size = 1) {xs news:List Value} (hown:OwnO w e v xs) (hu:Sl w u news)
  (h1:∀ c ∈ news,c.oneCell' = true) (hby:(xs.length + news.length) * by_ ≤ 140737488355328) (h63:xs.length + news.length ≤ 9223372036854775807) :
  ∃ v' w',(Builtin.append_ #[t,t] t' #[v,u]).run P w = .ok v' w'∧OwnO w' e v' (xs ++ news)∧Upd w w' v.ownBlock.toList∧∀ b,v'.ownBlock = some b→v.ownBlock = some b∨w.heap.size ≤ b:=by
 obtain ⟨inf,hi,hiz,his,hib⟩:=E.info he
 have ht':=E.un ht
 have hsl:=hown.sl
 obtain ⟨a,cu,rfl,hn1,hn2,hcell⟩:=hu
 by_cases h0:news = []
 ·subst h0
  refine ⟨v,w,?_,by simpa using hown,Upd.refl _ _,fun _ h=>.inl h⟩
  rcases hown with ⟨rfl,rfl⟩ | ⟨b,o,cap,cur,rfl,hb,h2,h3,h4,h5⟩
  ·exact run_append_zero t' w ht' hi (Nat.le_refl _)
  ·exact run_append_zero t' w ht' hi h2
 ·have hpos:0 < news.length:=by cases news with | nil=>exact absurd rfl h0 | cons=>simp
  obtain ⟨ad,rfl,_⟩:=hcell 0 news[0] (List.getElem?_eq_getElem hpos)
  have hnews:∀ j c,news[j]? = some c→w.cell? (ad.add j) = some c:=fun j c hj=>by
   obtain ⟨y,hy,hc⟩:=hcell j c hj
   cases hy;exact hc
  have hl:news.length = news.length * inf.size:=by rw [his,Nat.mul_one]
  subst hib
  have hml:∀ need old,need ≤ 9223372036854775807→grownCap w need old e ≤ maxLen:=fun need old h=>grownCap_le_maxLen w need old e (by unfold maxLen;omega)
  have grow:∀ (old:Nat),OwnO (w.drew.alloc (.cells (xs.toArray ++ news.toArray ++ Builtin.zeroCells z.cells (grownCap w (xs.length + news.length) old e - (xs.length + news.length))) e)) e
    (.slice (some ⟨w.heap.size,0,none⟩) (xs.length + news.length) (grownCap w (xs.length + news.length) old e)) (xs ++ news):=by
   intro old
   have hge:=grownCap_ge w (xs.length + news.length) old e
   refine .inr ⟨w.heap.size,0,grownCap w (xs.length + news.length) old e,_,by simp,heap_alloc_new w.drew _,by simpa using hge,hml _ _ h63,?_,?_⟩
   ·simp only [Array.size_append,List.size_toArray,size_zeroCells,hz,Nat.mul_one];omega
   ·simp only [Array.toList_append,List.append_assoc,List.drop_zero]
    rw [← List.append_assoc]
    exact List.take_left
  have hupd:∀ (o:Obj) (S:List Nat),Upd w (w.drew.alloc o) S:=fun o S=>((Upd.drew w).trans (Upd.alloc w.drew o)).weak (by simp)
  rcases hown with ⟨rfl,rfl⟩ | ⟨b,o,cap,cur,rfl,hb,h2,h3,h4,h5⟩
  ·have hr:=run_append_nil (P:=P) w t t' e inf z ht' hi hiz ad news.length cu news hl hnews hpos (by simp at h63;omega) (by simp at hby;omega)
   have hg:=grow 0
   simp only [List.length_nil,Nat.zero_add,List.nil_append,Array.empty_append] at hg ⊢
   exact ⟨_,_,hr,hg,hupd _ _,fun b hb=>.inr (by cases hb;exact Nat.le_refl _)⟩
  ·by_cases hroom:xs.length + news.length ≤ cap
   ·have hr:=run_append_roomO (P:=P) w t t' e inf ht' hi b o xs.length cap cur hb ad news.length cu news hl hnews h1 hroom (by rw [his];omega)
    rw [his,Nat.mul_one] at hr
    refine ⟨_,_,hr,.inr ⟨b,o,cap,_,by simp,setRow_heap w b cur _ e _ hb,by simpa using hroom,h3,?_,?_⟩,Upd.setRow w b _,fun _ h=>.inl h⟩
    ·simp only [List.size_toArray,List.length_append,List.length_take,List.length_drop,Array.length_toList];omega
    ·have hcl:cur.toList.length = cur.size:=Array.length_toList
     rw [List.append_assoc,List.drop_append_of_le_length (by rw [List.length_take,hcl];omega),show List.drop o (List.take (o + xs.length) cur.toList) = List.take xs.length (List.drop o cur.toList) by rw [List.drop_take,Nat.add_sub_cancel_left]]
     rw [h5,← List.append_assoc]
     exact List.take_left
   ·have hr:=run_append_grow (P:=P) w t t' e inf z ht' hi hiz ⟨b,o,none⟩ xs.length cap xs (by rw [his,Nat.mul_one]) (fun j c hj=>hsl.cell hj) ad news.length cu news hl hnews (by omega) (by omega) (growslice_fits (by omega) hby)
    exact ⟨_,_,hr,grow cap,hupd _ _,fun b hb=>.inr (by cases hb;exact Nat.le_refl _)⟩
theorem SO_appendO (hd:Nat.blt d n.n = true) (ht:lk E.und t = some (.slice e)) (he:lk E.inf e = some (z,1,by_)) (hz:z.cells.size = 1) {xs news:List Value} (hx:ev fr x = some v) (hy:ev fr y = some u)
  (hown:OwnO w e v xs) (hu:Sl w u news) (h1:∀ c ∈ news,c.oneCell' = true) (hby:(xs.length + news.length) * by_ ≤ 140737488355328) (h63:xs.length + news.length ≤ 9223372036854775807)
  (h:∀ v' w',OwnO w' e v' (xs ++ news)→Upd w w' v.ownBlock.toList→(∀ b,v'.ownBlock = some b→v.ownBlock = some b∨w.heap.size ≤ b)→SO E n Q0 s ops rest ((d,v') :: fr) w') :
  SO E n Q0 s ops (⟨some d,.call ⟨.builtin .append,#[x,y],#[t,t]⟩,ty,pos,after,none⟩ :: rest) fr w:=by
 obtain ⟨v',w',hr,h2,h3,h4⟩:=run_appendO (P:=P) ty w ht he hz hown hu h1 hby h63
 refine SO_v hd (w':=w') (v:=v') ⟨fun a ha' _ _ _ _=>?_⟩ (h v' w' h2 h3 h4)
 simp only [execOp,resolve]
 simp [ha'.ev hx,ha'.ev hy,invoke,builtin,hr]
theorem SO_storeO {i:Nat} {xs:List Value} {c:Value} (ht:lk E.inf t = some (z,1,by_)) (hown:OwnO w e v xs) (ha:ev fr x = some (.pointer (some (addrAt v i)))) (hx:ev fr y = some c) (hc:c.oneCell' = true)
  (hi:i < xs.length) (h:∀ w',Upd w w' v.ownBlock.toList→OwnO w' e v (xs.set i c)→SO E n Q0 s ops rest fr w') :
  SO E n Q0 s ops (⟨none,.store t x y,ty,pos,after,none⟩ :: rest) fr w:=by
 rcases hown with ⟨_,rfl⟩ | ⟨b,o,cap,cur,rfl,hb,h2,h3,h4,h5⟩
 ·simp at hi
 ·have hA:addrAt (.slice (some ⟨b,o,none⟩) xs.length cap) i = ⟨b,o + i,none⟩:=by simp [addrAt,Addr.add_lit]
  rw [hA] at ha
  refine SO_store ht ha hx hc hb (lt_nblt (by omega)) fun w' hU hH=>h w' (by simpa [Value.ownBlock] using hU) (.inr ⟨b,o,cap,_,by simp,hH,by simpa using h2,h3,by simpa using h4,?_⟩)
  rw [List.length_set,Array.toList_setIfInBounds]
  conv=>rhs;rw [← h5]
  rw [List.drop_set,if_neg (by omega),Nat.add_sub_cancel_left,List.take_set]
end
/-! ### The pieces that there are -/
def pt (b:Nat) (cs:List Value) (T:TypeId):Ch where
 wr:=fun x=>x = b
 rd:=fun _=>False
 bd:=fun _=>False
 P:=fun w=>w.heap[b]? = some (.cells cs.toArray T (0,0))
 loc:=fun h hb=>(hb b (.inl rfl)).trans h
 lt:=fun h hb=>by rcases hb with rfl | hb | hb;exact lt_of_heap h;exact hb.elim;exact hb.elim
def own (e:TypeId) (v:Value) (xs:List Value):Ch where
 wr:=fun x=>v.ownBlock = some x
 rd:=fun _=>False
 bd:=fun _=>False
 P:=fun w=>OwnO w e v xs
 loc:=fun h hb=>h.keep fun b h=>hb b (.inl h)
 lt:=fun h hb=>by rcases hb with hb | hb | hb;exact h.blt hb;exact hb.elim;exact hb.elim
theorem Sl.of_block {w w':World} {v:Value} {xs:List Value} (h:Sl w v xs) (hb:∀ b,xs ≠ []∧v.ownBlock = some b→w'.heap[b]? = w.heap[b]?):Sl w' v xs:=by
 obtain ⟨a,cap,rfl,h1,h2,h3⟩:=h
 refine ⟨a,cap,rfl,h1,h2,fun i u hi=>?_⟩
 obtain ⟨x,rfl,hx⟩:=h3 i u hi
 have e:(x.add i).block = x.block:=by unfold Addr.add;split <;> rfl
 exact ⟨x,rfl,(World.cell?_of_block (by rw [e];exact hb _ ⟨by rintro rfl;simp at hi,rfl⟩)).trans hx⟩
theorem Sl.blt {w:World} {v:Value} {xs:List Value} (h:Sl w v xs) {b:Nat} (hb:xs ≠ []∧v.ownBlock = some b):b < w.heap.size:=by
 obtain ⟨a,cap,rfl,h1,h2,h3⟩:=h
 obtain ⟨h4,h5⟩:=hb
 cases xs with
 | nil=>exact absurd rfl h4
 | cons u r=>
  obtain ⟨x,rfl,hx⟩:=h3 0 u rfl
  have e:(x.add 0).block = x.block:=by unfold Addr.add;split <;> rfl
  have:=World.block_lt_of_cell? w _ hx
  rw [e] at this
  simp only [Value.ownBlock,Option.some.injEq] at h5
  rw [← h5];exact this
def ro (v:Value) (xs:List Value):Ch where
 wr:=fun _=>False
 rd:=fun x=>xs ≠ []∧v.ownBlock = some x
 bd:=fun _=>False
 P:=fun w=>Sl w v xs
 loc:=fun h hb=>h.of_block fun b hx=>hb b (.inr (.inl hx))
 lt:=fun h hb=>by rcases hb with hb | hb | hb;exact hb.elim;exact h.blt hb;exact hb.elim
def vw (v:Value) (xs:List Value):Ch where
 wr:=fun _=>False
 rd:=fun _=>False
 bd:=fun x=>xs ≠ []∧v.ownBlock = some x
 P:=fun w=>Sl w v xs
 loc:=fun h hb=>h.of_block fun b hx=>hb b (.inr (.inr hx))
 lt:=fun h hb=>by rcases hb with hb | hb | hb;exact hb.elim;exact hb.elim;exact h.blt hb
def mpc (b:Nat) (f:Int→Option Value):Ch where
 wr:=fun x=>x = b
 rd:=fun _=>False
 bd:=fun _=>False
 P:=fun w=>MapF w b f
 loc:=fun {w w'} h hb=>by obtain ⟨es,c,h1,h2⟩:=h.ex;exact ⟨es,c,(hb b (.inl rfl)).trans h1,h2⟩
 lt:=fun h hb=>by rcases hb with rfl | hb | hb;exact h.lt;exact hb.elim;exact hb.elim
theorem has_vw {F:List Ch} {v:Value} {xs:List Value} (h:vw v xs ∈ F):Has F (vw v xs):=⟨fun _ hw=>hw.h _ h,fun _ h=>h,fun _ h=>h,fun _ hb=>⟨_,h,hb⟩⟩
theorem has_own {F:List Ch} {e:TypeId} {v:Value} {xs:List Value} (h:own e v xs ∈ F):Has F (vw v xs):=⟨fun _ hw=>OwnO.sl (hw.h (own e v xs) h),fun _ h=>h,fun _ h=>h,fun b hb=>⟨_,h,by rcases hb with hb | hb | hb;exact hb.elim;exact hb.elim;exact .inl hb.2⟩⟩
theorem has_nil {F:List Ch}:Has F (vw (.slice none 0 0) []):=⟨fun w _=>Sl.nil w,fun _ h=>h,fun _ h=>h,fun b hb=>by rcases hb with hb | hb | hb;exact hb.elim;exact hb.elim;exact absurd rfl hb.1⟩
theorem has_sub {F:List Ch} {v:Value} {xs:List Value} (h:Has F (vw v xs)) {lo hi:Nat} (h1:lo ≤ hi) (h2:hi ≤ xs.length):Has F (vw (slSub v lo hi) ((xs.take hi).drop lo)):=
 ⟨fun w hw=>Sl.sub (h.P w hw) h1 h2,fun _ h=>h,fun _ h=>h,fun b hb=>h.ft b (by
  rcases hb with hb | hb | hb
  ·exact hb.elim
  ·exact hb.elim
  ·refine .inr (.inr ⟨fun e=>hb.1 (by subst e;simp),?_⟩)
   rw [← slSub_block v lo hi];exact hb.2)⟩
theorem own_nil (e:TypeId) (A:List Ch):Im A (own e (.slice none 0 0) [] :: A):=by
 have h0:∀ b,¬ (own e (.slice none 0 0) []).ft b:=by rintro b (h | h | h);cases h;exact h;exact h
 refine ⟨fun w hw=>Sat.cons.2 ⟨.inl ⟨rfl,rfl⟩,fun a _=>⟨fun b hb=>absurd (.inl hb) (h0 b),fun b _ hf=>h0 b hf⟩,hw⟩,fun b hb=>?_,fun b hb=>?_,fun b hb=>?_⟩
 ·obtain ⟨x,hx,hb⟩:=hb
  rcases List.mem_cons.1 hx with rfl | hx
  ·exact absurd (.inl hb) (h0 b)
  ·exact ⟨x,hx,hb⟩
 ·obtain ⟨x,hx,hb⟩:=hb
  rcases List.mem_cons.1 hx with rfl | hx
  ·exact absurd (.inr (.inl hb)) (h0 b)
  ·exact .inr ⟨x,hx,hb⟩
 ·obtain ⟨x,hx,hb⟩:=hb
  rcases List.mem_cons.1 hx with rfl | hx
  ·exact absurd hb (h0 b)
  ·exact ⟨x,hx,hb⟩
theorem im_freeze (e:TypeId) (v:Value) (xs:List Value):Im1 (own e v xs) (ro v xs):=⟨fun _ h=>h.sl,fun _ h=>h.elim,fun _ h=>.inl h.2,fun b hb=>by rcases hb with hb | hb | hb;exact hb.elim;exact .inl hb.2;exact hb.elim⟩
theorem im_sub (e:TypeId) (v:Value) (xs:List Value) {lo hi:Nat} (h1:lo ≤ hi) (h2:hi ≤ xs.length):Im1 (own e v xs) (own e (slSub v lo hi) ((xs.take hi).drop lo)):=by
 have hb:=slSub_block v lo hi
 refine ⟨fun w h=>OwnO.sub h h1 h2,fun b h=>?_,fun _ h=>h.elim,fun b h=>?_⟩
 ·show v.ownBlock = some b;rw [← hb];exact h
 ·rcases h with h | h | h
  ·exact .inl (by show v.ownBlock = some b;rw [← hb];exact h)
  ·exact h.elim
  ·exact h.elim
class NoB (c:Ch):Prop where
 nb:∀ b,¬ c.bd b
class Lent (c:Ch):Prop where
 lent:∀ b,¬ c.wr b∧¬ c.rd b
instance (b:Nat) (cs:List Value) (T:TypeId):NoB (pt b cs T):=⟨fun _ h=>h⟩
instance (e:TypeId) (v:Value) (xs:List Value):NoB (own e v xs):=⟨fun _ h=>h⟩
instance (v:Value) (xs:List Value):NoB (ro v xs):=⟨fun _ h=>h⟩
instance (b:Nat) (f:Int→Option Value):NoB (mpc b f):=⟨fun _ h=>h⟩
instance (v:Value) (xs:List Value):Lent (vw v xs):=⟨fun _=>⟨fun h=>h,fun h=>h⟩⟩
theorem pt_at {A:List Ch} {w:World} {b:Nat} {cs:List Value} {T:TypeId} (h:pt b cs T ∈ A) (hw:Sat A w):w.heap[b]? = some (.cells cs.toArray T (0,0)):=hw.h (pt b cs T) h
end Go.Art
namespace Go.Art
open Go Go.RowKit
abbrev yv (l:Nat):Value:=.func (.yield l) #[] #[]
section
variable {P:Program}
structure Yd (P:Program) (l:Nat) (args:List Value) (w:World) (R:Bool→World→Prop):Prop where
 run:∃ rec:Loop,w.heap[l]? = some (.loop rec)∧args.length = rec.params.size ∧
  RoundIn (FF none) 0 P l rec.fn ((rec.params.zip args.toArray).foldl (fun tmps (t,a)=>tmps.setIfInBounds t a) rec.tmps) rec.assign rec.body w fun e w'=>∃ b,e = .returned (.bool b)∧R b w'
theorem Yd.mono {l:Nat} {args:List Value} {w:World} {R R':Bool→World→Prop} (h:Yd P l args w R) (hr:∀ b w',R b w'→R' b w'):Yd P l args w R':=by
 obtain ⟨rec,h1,h2,h3⟩:=h.run
 exact ⟨rec,h1,h2,h3.mono fun e w' ⟨b,he,hR⟩=>⟨b,he,hr _ _ hR⟩⟩
end
section
variable {P:Program} {E:Env P} {n:Sh} {Q0:Exit→Act→World→Prop} {s:List K} {fr:Fr} {w:World} {ops:Array Oper} {rest:List Oper} {d:Nat} {ty:TypeId} {pos:String} {after:Array Edge} {v:Value} {o:Op}
theorem SO_yield {l:Nat} {g:Operand} {xs:List Operand} {ats:Array TypeId} {vs:List Value} {R:Bool→World→Prop} (hg:ev fr g = some (yv l)) (hv:evs fr xs = some vs) (hd:Nat.blt d n.n = true) (hy:Yd P l vs w R)
  (h:∀ b w',R b w'→SO E n Q0 s ops rest ((d,.bool b) :: fr) w') :
  SO E n Q0 s ops (⟨some d,.call ⟨.value g,xs.toArray,ats⟩,ty,pos,after,none⟩ :: rest) fr w:=⟨fun a ha=>
 wpListIn_plain rfl fun K hK=>⟨fun _ _=>trivial,by
  obtain ⟨rec,h1,h2,h3⟩:=hy.run
  have hm:(Array.map a.eval xs.toArray) = vs.toArray:=by simp [ha.evs hv]
  have hrun:(execOp a.eval ⟨some d,.call ⟨.value g,xs.toArray,ats⟩,ty,pos,after,none⟩).run P w =
    .ok (.round l rec.fn ((rec.params.zip vs.toArray).foldl (fun tmps (t,a)=>tmps.setIfInBounds t a) rec.tmps) rec.assign rec.body) w:=by
   simp only [execOp,resolve,hm,ha.ev hg]
   show (Sem.run P ((Deferred.ofValue (.func (.yield l) #[] #[]) vs.toArray).bind fun d=>invoke d.target d.args) w) = _
   simp only [Deferred.ofValue]
   have:=run_yield (P:=P) (args:=vs.toArray) h1 (by simpa using h2)
   simpa [Sem.bind,bind,pure,invoke] using this
  rw [semAt_run hrun (fun _ e=>by cases e)]
  simp only [Oper.uponIn]
  refine ⟨fun e=>(by cases e),?_⟩
  refine RoundIn.mono (R:=fun e w'=>∃ b,e = .returned (.bool b)∧R b w') h3 fun e w' ⟨b,he,hR⟩=>?_
  subst he
  exact hK _ _ ((h b w' hR).run _ (ha.put hd _))⟩⟩
/-! ### A round -/
structure RecOk (rec:Loop) (n:Nat) (fr:Fr) (ps:List Tmp) (assign body:Code) (D:Nat):Prop where
 params:rec.params = ps.toArray
 assign:rec.assign = assign
 body:rec.body = body
 defers:rec.defers = D
 tmps:∃ a,rec.tmps = a.tmps∧Holds ⟨n,a.defers,none⟩ a fr
def RAt (w:World) (l:Nat) (rec:Loop) (st:LoopState) (pend:Option Code):Prop:=w.heap[l]? = some (.loop { rec with state:=st,pending:=pend })
def parFr:List Tmp→List Value→Fr→Fr
 | t :: ts,v :: vs,fr=>parFr ts vs ((t,v) :: fr)
 | _,_,fr=>fr
theorem par_holds {m:Nat} {ds:List Deferred} {r:Option Nat}:∀ (ts:List Tmp) (vs:List Value) (a:Act) (fr:Fr),Holds ⟨m,ds,r⟩ a fr→ts.all (fun t=>Nat.blt t m) = true →
  Holds ⟨m,ds,r⟩ ⟨(ts.zip vs).foldl (fun tmps (p:Tmp × Value)=>tmps.setIfInBounds p.1 p.2) a.tmps,a.defers⟩ (parFr ts vs fr)
 | [],vs,a,fr,h,_=>by simpa [parFr] using h
 | t :: ts,[],a,fr,h,_=>by simpa [parFr] using h
 | t :: ts,v :: vs,a,fr,h,hb=>by
  simp only [List.all_cons,Bool.and_eq_true] at hb
  have:=h.put (d:=t) hb.1 v
  exact par_holds ts vs _ _ this hb.2
def begQ (P:Program) (l:Nat) (body:Code) (R:Ending→World→Prop):Exit→Act→World→Prop:=
 Exit.then (fun a₁ w₁=>∃ w₂,(Instr.beginRound l).run P w₁ = .ok () w₂∧body.wpIn (FF (some l)) 0 P (roundPost P l R) a₁ w₂) (fun _ _ _=>False)
abbrev RB (R:Bool→World→Prop):Ending→World→Prop:=fun e w'=>∃ b,e = .returned (.bool b)∧R b w'
theorem Yd.intro {l m D:Nat} {rec:Loop} {ps:List Tmp} {assign body:Code} {vs:List Value} {R:Bool→World→Prop} {pend:Option Code} {st:LoopState} (E:Env P) (hr:RecOk rec m fr ps assign body D) (hl:RAt w l rec st pend) (hlen:vs.length = ps.length)
  (hps:ps.all (fun t=>Nat.blt t m) = true)
  (h:SC E ⟨m,[],some l⟩ (begQ P l body (RB R)) [] assign (parFr ps vs fr) w):Yd P l vs w R:=by
 obtain ⟨a,ht,ha⟩:=hr.tmps
 have ha':Holds ⟨m,[],some l⟩ ⟨a.tmps,[]⟩ fr:=⟨ha.size,rfl,ha.slot⟩
 have hp:=par_holds ps vs ⟨a.tmps,[]⟩ fr ha' hps
 refine ⟨⟨_,hl,by simp [hr.params,hlen],?_⟩⟩
 refine roundIn_of_wpIn (F:=FF none) (n:=0) trivial ?_
 have hz:((rec.params.zip vs.toArray).foldl (fun tmps (p:Tmp × Value)=>tmps.setIfInBounds p.1 p.2) rec.tmps) = (ps.zip vs).foldl (fun tmps (p:Tmp × Value)=>tmps.setIfInBounds p.1 p.2) a.tmps:=by
  rw [hr.params,ht,List.zip_toArray,List.foldl_toArray]
 have:=h.run _ hp
 simp only [hr.assign,hr.body]
 show Code.wpIn (FF (some l)) 0 P assign _ ⟨(rec.params.zip vs.toArray).foldl (fun tmps (p:Tmp × Value)=>tmps.setIfInBounds p.1 p.2) rec.tmps,[]⟩ w
 rw [hz]
 exact this
theorem putObj_upd (w:World) (l:Nat) (o:Obj):Upd w (w.putObj l o) [l]:=⟨rfl,rfl,rfl,by simp,fun k _ hn=>World.putObj_heap_other (fun e=>hn (by simp [e]))⟩
theorem SX_beg {l m:Nat} {rec:Loop} {body:Code} {R:Bool→World→Prop} {pend:Option Code} (hl:RAt w l rec .ready pend)
  (h:∀ w',Upd w w' [l]→RAt w' l rec .busy pend→SC E ⟨m,[],some l⟩ (roundPost P l (RB R)) [] body fr w'):SX E ⟨m,[],some l⟩ (begQ P l body (RB R)) [] .normal fr w:=⟨fun a ha=>by
 refine ⟨_,run_beginRound hl rfl,?_⟩
 have hlt:=lt_of_heap hl
 exact (h (w.putObj l (.loop { rec with state:=.busy,pending:=pend })) (putObj_upd w l _) (World.putObj_heap_same hlt)).run a ha⟩
theorem SX_rend {l m:Nat} {rec:Loop} {R:Bool→World→Prop} {pend:Option Code} {st:LoopState} (hl:RAt w l rec st pend) (h:∀ w',Upd w w' [l]→RAt w' l rec .ready none→R true w') :
  SX E ⟨m,[],some l⟩ (roundPost P l (RB R)) [] .normal fr w:=⟨fun a ha=>
 ⟨_,_,run_endRound none hl,true,rfl,h _ (putObj_upd w l _) (World.putObj_heap_same (lt_of_heap hl))⟩⟩
theorem SX_rexit {l m id:Nat} {rec:Loop} {R:Bool→World→Prop} {pend:Option Code} {st:LoopState} (hl:RAt w l rec st pend) (h:∀ w',Upd w w' [l]→RAt w' l rec .done (some (.exit id))→R false w') :
  SX E ⟨m,[],some l⟩ (roundPost P l (RB R)) [] (.exit id) fr w:=⟨fun a ha=>
 ⟨_,_,run_endRound (some (.exit id)) hl,false,rfl,h _ (putObj_upd w l _) (World.putObj_heap_same (lt_of_heap hl))⟩⟩
theorem SX_exit_out {id:Nat}:∀ {s:List K},popX id s = none→SX E n Q0 [] (.exit id) fr w→SX E n Q0 s (.exit id) fr w
 | [],_,h=>h
 | .code _ :: s,hp,h=>SX_code_exit (SX_exit_out (s:=s) hp h)
 | .loop _ :: s,hp,h=>SX_loop_exit (SX_exit_out (s:=s) hp h)
 | .block i :: s,hp,h=>by
  simp only [popX] at hp
  cases hb:Nat.beq id i with
  | true=>rw [hb,cond_true] at hp;cases hp
  | false=>rw [hb,cond_false] at hp;exact SX_block_miss hb (SX_exit_out hp h)
theorem SC_eo {id:Nat} (hp:popX id s = none) (h:SX E n Q0 [] (.exit id) fr w):SC E n Q0 s (.exit id) fr w:=SC_exit (SX_exit_out hp h)
/-! ### The statement -/
def mark (D:Nat):Deferred:={ target:=.collected D,args:=#[] }
def afterR {P:Program} (E:Env P) (n:Sh) (Q0:Exit→Act→World→Prop) (s:List K) (fr:Fr) (w:World):Option Code→Prop
 | none=>SX E n Q0 s .normal fr w
 | some c=>SC E n Q0 s c fr w
theorem SC_range {m:Nat} {ds:List Deferred} {g:Operand} {f:FuncId} {cap:Array Value} {ps:List Tmp} {assign body:Code} (hg:ev fr g = some (.func (.func f) #[] cap))
  (h:∀ (rec:Loop) (w1:World),RecOk rec m fr ps assign body w.heap.size→Ext w w1→w1.heap.size = w.heap.size + 2→w1.heap[w.heap.size]? = some (.deferred (some []))→RAt w1 (w.heap.size + 1) rec .ready none →
   Fn P f (yv (w.heap.size + 1) :: cap.toList) w1 fun _ w3=>∃ st pend,st ≠ LoopState.busy∧RAt w3 (w.heap.size + 1) rec st pend ∧
    ∀ w4,Upd w3 w4 [w.heap.size + 1]→afterR E ⟨m,mark w.heap.size :: ds,none⟩ Q0 s fr w4 pend) :
  SC E ⟨m,ds,none⟩ Q0 s (.rangeFunc g ps.toArray assign body) fr w:=⟨fun a ha=>by
 refine wpIn_rangeFunc fun fn _=>?_
 obtain ⟨rec,hrec⟩ : ∃ rec:Loop,rec = { state:=.ready,pending:=none,fn,tmps:=a.tmps,params:=ps.toArray,assign,body,defers:=w.heap.size }:=⟨_,rfl⟩
 obtain ⟨w1,hw1⟩ : ∃ w1,w1 = (w.alloc (.deferred (some []))).alloc (.loop rec):=⟨_,rfl⟩
 have hfn:=h rec w1 (by subst hrec;exact ⟨rfl,rfl,rfl,rfl,a,rfl,ha.size,rfl,ha.slot⟩) (by subst hw1;exact Ext.trans (Upd.alloc w _) (Upd.alloc _ _)) (by subst hw1;simp) (by subst hw1;exact heap_alloc2_old w _ _) (by subst hw1;subst hrec;exact heap_alloc2_new w _ _)
 have hcf:=run_callFunc_fn hfn.can (yv (w.heap.size + 1) :: cap.toList).toArray w1
 refine ⟨w.heap.size + 1,[mark w.heap.size],w1,{ target:=.fn (.func f) cap,args:=#[yv (w.heap.size + 1)] },w1,f,(yv (w.heap.size + 1) :: cap.toList).toArray,w1,?_,?_,fun _ _=>trivial,?_,fun e=>(by cases e),?_⟩
 ·subst hw1;subst hrec;exact run_enterLoop_outer fn a.tmps ps.toArray assign body
 ·simp only [resolve,rangeCall,ha.ev hg]
  simp [Deferred.ofValue,Act.eval]
 ·have e1 : #[yv (w.heap.size + 1)] ++ cap = (yv (w.heap.size + 1) :: cap.toList).toArray:=by apply Array.ext';simp
  simp only [invoke,e1]
  exact hcf
 ·refine callsFF (hfn.calls.mono fun e w3 ⟨v,he,st,pend,hst,hR,hk⟩=>?_)
  subst he
  refine ⟨pend,w3.putObj (w.heap.size + 1) (.loop { rec with state:=.exhausted,pending:=pend }),run_endLoop hR hst,?_⟩
  have hh:=hk _ (putObj_upd w3 (w.heap.size + 1) (.loop { rec with state:=.exhausted,pending:=pend }))
  have ha':Holds ⟨m,mark w.heap.size :: ds,none⟩ { a with defers:=[mark w.heap.size] ++ a.defers } fr:=⟨ha.size,by show [mark w.heap.size] ++ a.defers = _;rw [ha.defers];rfl,ha.slot⟩
  cases pend with
  | none=>exact hh.run _ ha'
  | some c=>exact hh.run _ ha'⟩
/-! ### Leaving with marks -/
theorem Fn.enterM {f:FuncId} {fn:Func} {c:Code} {args:List Value} {R:Value→World→Prop} (E:Env P) (n:Nat) (hf:P.funcs[f]? = some fn) (hnm:(fn.name == "runtime.NumGoroutine") = false) (hb:fn.body = some c)
  (hn:fn.ntmps = n) (hl:Nat.ble args.length n = true) (h:SC E ⟨n,[],none⟩ (bodyPostM (FF none) 0 P fn (RetP R)) [] c (argFr args 0) w):Fn P f args w R:=by
 refine ⟨⟨fn,hf,hnm,by simp [hb]⟩,calls_of_FF (r:=none) (k:=0) (callsIn_of_wp_marks hf hb trivial ?_)⟩
 subst hn
 have hl':args.length ≤ fn.ntmps:=Nat.le_of_ble_eq_true hl
 exact h.run _ ⟨by simp;omega,rfl,argFr_slot args fn.ntmps⟩
variable {R:Value→World→Prop} {fn:Func}
theorem leaves_nil {tmps:Array Value} (hr:(results fn tmps).run P w = .ok v w) (h:R v w):LeavesInM (FF none) 0 P fn tmps (RetP R) [] .returning w:=by
 unfold LeavesInM LeavesIn
 exact ⟨v,hr,v,rfl,h⟩
theorem leaves_mark {tmps:Array Value} {ds:List Deferred} {D:Nat} (hD:w.heap[D]? = some (.deferred (some []))) (h:∀ w',Upd w w' [D]→LeavesInM (FF none) 0 P fn tmps (RetP R) ds .returning w') :
  LeavesInM (FF none) 0 P fn tmps (RetP R) (mark D :: ds) .returning w:=by
 unfold LeavesInM
 exact ⟨by simp,.inl ⟨D,_,rfl,run_takeDeferred hD,h _ (putObj_upd w D _)⟩⟩
theorem SX_retM {D:Nat} (hds:n.ds = [mark D]) (hD:w.heap[D]? = some (.deferred (some []))) (h:∀ a,Holds n a fr→∀ w',Upd w w' [D]→∃ v,(results fn a.tmps).run P w' = .ok v w'∧R v w') :
  SX E n (bodyPostM (FF none) 0 P fn (RetP R)) [] .ret fr w:=⟨fun a ha=>by
 show LeavesInM (FF none) 0 P fn a.tmps (RetP R) a.defers .returning w
 rw [ha.defers,hds]
 refine leaves_mark hD fun w' hU=>?_
 obtain ⟨v,hr,hR⟩:=h a ha w' hU
 exact leaves_nil hr hR⟩
theorem res_ct {a:Act} (ha:Holds n a fr) {t u:Nat} {ty:TypeId} {d:TypeDesc} {ad:Addr} {v1 v2:Value} (hr:fn.results = #[.cell t ty,.tmp u]) (ht:lk E.und ty = some d) (hd:aggB d = false) (h1:get fr t = some (.pointer (some ad))) (hc:w.cell? ad = some v1) (h2:get fr u = some v2) :
  (results fn a.tmps).run P w = .ok (.tuple #[v1,v2]) w:=by
 have e1:a.tmps[t]?.getD undef = .pointer (some ad):=by have:=ha.slot t _ h1;simpa using this
 have e2:a.tmps[u]?.getD undef = v2:=by have:=ha.slot u _ h2;simpa using this
 simp only [results,hr]
 simp [e1,e2,asAddr,loadVar,aggB_run (w:=w) ht hd,hc]
theorem res_t {a:Act} (ha:Holds n a fr) {t:Nat} {v1:Value} (hr:fn.results = #[.tmp t]) (h1:get fr t = some v1):(results fn a.tmps).run P w = .ok v1 w:=by
 rw [results_tmp hr a.tmps P w,ha.slot t _ h1]
theorem res_c {a:Act} (ha:Holds n a fr) {t:Nat} {ty:TypeId} {d:TypeDesc} {ad:Addr} {v1:Value} (hr:fn.results = #[.cell t ty]) (ht:lk E.und ty = some d) (hd:aggB d = false) (h1:get fr t = some (.pointer (some ad))) (hc:w.cell? ad = some v1) :
  (results fn a.tmps).run P w = .ok v1 w:=by
 have e1:a.tmps[t]?.getD undef = .pointer (some ad):=by have:=ha.slot t _ h1;simpa using this
 simp only [results,hr]
 simp [e1,asAddr,loadVar,aggB_run (w:=w) ht hd,hc]
end
end Go.Art
namespace Go.Art
open Go Go.RowKit
structure Cx where
 Q:Exit→Act→World→Prop
 w0:World
 A0:List Ch
structure St (X:Cx) (A:List Ch) (w:World):Prop where
 sat:Sat A w
 mv:Mv X.w0 X.A0 w A
theorem St.im {X:Cx} {A B:List Ch} {w:World} (h:St X A w) (i:Im A B):St X B w:=
 ⟨i.sat w h.sat,h.mv.trans ⟨rfl,rfl,rfl,Nat.le_refl _,fun _ _ _=>rfl,fun b hb=>.inl (i.wr b hb),fun b hb=>by rcases i.rd b hb with h1 | h1;exact .inl h1;exact .inr (.inl h1)⟩⟩
theorem St.step {X:Cx} {A B F:List Ch} {w w':World} (h:St X (A ++ F) w) (m:Mv w A w' B) (hb:Sat B w') (nb:∀ c ∈ B,∀ b,¬ c.bd b):St X (B ++ F) w':=
 ⟨(m.frame h.sat hb nb).1,h.mv.trans (m.frame h.sat hb nb).2⟩
theorem St.ext {X:Cx} {A:List Ch} {w w':World} (h:St X A w) (u:Ext w w'):St X A w':=h.step (A:=[]) (B:=[]) (Mv.of_ext u []) (Sat.nil _) (by simp)
theorem St.mem {X:Cx} {A:List Ch} {w:World} {c:Ch} (h:St X A w) (hc:c ∈ A):c.P w:=h.sat.h c hc
theorem St.new {X:Cx} {A:List Ch} {w w':World} {c:Ch} (h:St X A w) (u:Ext w w') (hc:c.P w') (h1:∀ b,c.ft b→w.heap.size ≤ b) (h2:∀ b,¬ c.bd b):St X (c :: A) w':=
 h.step (A:=[]) (B:=[c]) (Mv.upd u (by simp) (fun b hb=>.inr (h1 b (.inl (wrs_one.1 hb)))) (fun b hb=>.inr (.inr (h1 b (.inr (.inl (rds_one.1 hb))))))) (Sat.one hc) (by simpa using h2)
theorem St.set {X:Cx} {A:List Ch} {w w':World} {c d:Ch} {S:List Nat} (h:St X (c :: A) w) (u:Upd w w' S) (hS:∀ b ∈ S,c.wr b∨w.heap.size ≤ b) (hd:d.P w') (h1:∀ b,d.ft b→c.wr b∨w.heap.size ≤ b) (h2:∀ b,¬ d.bd b):St X (d :: A) w':=
 h.step (A:=[c]) (B:=[d]) (Mv.upd u (fun b hb=>by rcases hS b hb with h | h;exact .inl (wrs_one.2 h);exact .inr h)
  (fun b hb=>by rcases h1 b (.inl (wrs_one.1 hb)) with h | h;exact .inl (wrs_one.2 h);exact .inr h)
  (fun b hb=>by rcases h1 b (.inr (.inl (rds_one.1 hb))) with h | h;exact .inl (wrs_one.2 h);exact .inr (.inr h))) (Sat.one hd) (by simpa using h2)
section
structure TC {P:Program} (E:Env P) (n:Sh) (X:Cx) (s:List K) (c:Code) (fr:Fr) (A:List Ch):Prop where
 run:∀ w,St X A w→SC E n X.Q s c fr w
structure TX {P:Program} (E:Env P) (n:Sh) (X:Cx) (s:List K) (e:Exit) (fr:Fr) (A:List Ch):Prop where
 run:∀ w,St X A w→SX E n X.Q s e fr w
structure TO {P:Program} (E:Env P) (n:Sh) (X:Cx) (s:List K) (ops:Array Oper) (l:List Oper) (fr:Fr) (A:List Ch):Prop where
 run:∀ w,St X A w→SO E n X.Q s ops l fr w
structure TQ {P:Program} (E:Env P) (n:Sh) (X:Cx) (s:List K) (ops:Array Oper) (l:List Oper) (fr:Fr) (A:List Ch):Prop where
 run:SQ E n X.Q s (St X A) ops l fr
structure TA {P:Program} (E:Env P) (n:Sh) (X:Cx) (s:List K) (ops:Array Oper) (fuel:Nat) (listed:Array Bool) (fr:Fr) (A:List Ch):Prop where
 run:∀ w,St X A w→SA E n (NP P n.r X.Q s) ops fuel listed fr w
def PR (w0:World) (A0:List Ch) (R:Value→List Ch→Prop) (v:Value) (w':World):Prop:=∃ B,R v B∧Sat B w'∧Mv w0 A0 w' B∧∀ c ∈ B,∀ b,¬ c.bd b
structure Tr (P:Program) (f:FuncId) (args:List Value) (pre A:List Ch) (R:Value→List Ch→Prop):Prop where
 run:∀ w,Sat (pre ++ A) w→Fn P f args w (PR w A R)
 lent:∀ c ∈ pre,∀ b,¬ c.wr b∧¬ c.rd b
end
theorem memA {c:Ch} {l:List Ch} (h:c ∈ l:=by (repeat (first | apply List.Mem.head | apply List.Mem.tail));first | done | fail):c ∈ l:=h
theorem hasA {F:List Ch} {c:Ch} (h:Has F c:=by first | (apply has_vw;(repeat (first | apply List.Mem.head | apply List.Mem.tail));first | done | fail) | (apply has_own;(repeat (first | apply List.Mem.head | apply List.Mem.tail));first | done | fail) | (apply has_ro;(repeat (first | apply List.Mem.head | apply List.Mem.tail));first | done | fail) | apply has_nil | ((with_reducible apply has_el);(focus (first | (apply has_vels;(repeat (first | apply List.Mem.head | apply List.Mem.tail));first | done | fail) | (apply has_rels;(repeat (first | apply List.Mem.head | apply List.Mem.tail));first | done | fail)));omega) | (apply has_pt;(repeat (first | apply List.Mem.head | apply List.Mem.tail));first | done | fail) | (apply has_lpt;(repeat (first | apply List.Mem.head | apply List.Mem.tail));first | done | fail) | (apply has_vels;(repeat (first | apply List.Mem.head | apply List.Mem.tail));first | done | fail) | (apply has_rels;(repeat (first | apply List.Mem.head | apply List.Mem.tail));first | done | fail) | with_reducible assumption | ((with_reducible apply has_elg);(focus (first | (apply has_velg;(repeat (first | apply List.Mem.head | apply List.Mem.tail));first | done | fail) | (apply has_relg;(repeat (first | apply List.Mem.head | apply List.Mem.tail));first | done | fail)));omega) | (apply has_velg;(repeat (first | apply List.Mem.head | apply List.Mem.tail));first | done | fail) | (apply has_relg;(repeat (first | apply List.Mem.head | apply List.Mem.tail));first | done | fail) | (apply has_vwf;(repeat (first | apply List.Mem.head | apply List.Mem.tail));first | done | fail) | (apply has_oww;(repeat (first | apply List.Mem.head | apply List.Mem.tail));first | done | fail)):Has F c:=h
theorem fitA {A B F:List Ch} (h:Fit A B F:=by first | apply Fit.all | ((repeat (first | (apply Fit.nilN;(repeat (first | apply nrm_nil | apply nrm_cons));try apply nrm_rfl) | (apply Fit.cons;focus ((repeat (first | apply Tk.here | apply Tk.there));first | done | fail))));first | done | fail)):Fit A B F:=h
theorem tkA {c:Ch} {A B:List Ch} (h:Tk c A B:=by (repeat (first | apply Tk.here | apply Tk.there));first | done | fail):Tk c A B:=h
section
variable {P:Program} {E:Env P} {n:Sh} {X:Cx} {s:List K} {fr:Fr} {A A' B F:List Ch} {ops:Array Oper} {rest l:List Oper} {d:Nat} {o:Op} {ty:TypeId} {pos:String} {after:Array Edge} {v u:Value} {c0:Code} {e:Exit}
theorem Tr.mono {f:FuncId} {args:List Value} {pre A:List Ch} {R R':Value→List Ch→Prop} (h:Tr P f args pre A R) (hr:∀ v B,R v B→R' v B):Tr P f args pre A R':=
 ⟨fun w hw=>(h.run w hw).mono fun v w' ⟨B,h1,h2⟩=>⟨B,hr v B h1,h2⟩,h.lent⟩
theorem Tr.enter {f:FuncId} {fn:Func} {c:Code} {args:List Value} {pre A:List Ch} {R:Value→List Ch→Prop} (E:Env P) (n:Nat) (hf:P.funcs[f]? = some fn) (hnm:(fn.name == "runtime.NumGoroutine") = false) (hb:fn.body = some c)
  (hn:fn.ntmps = n) (hl:Nat.ble args.length n = true) (hp:∀ c ∈ pre,∀ b,¬ c.wr b∧¬ c.rd b) (h:∀ w0,TC E ⟨n,[],none⟩ ⟨bodyPost P fn (RetP (PR w0 A R)),w0,A⟩ [] c (argFr args 0) (pre ++ A)):Tr P f args pre A R:=by
 refine ⟨fun w hw=>Fn.enter E n hf hnm hb hn hl ((h w).run w ⟨hw,Mv.refl w A |>.trans ⟨rfl,rfl,rfl,Nat.le_refl _,fun _ _ _=>rfl,fun b hb=>?_,fun b hb=>?_⟩⟩),hp⟩
 ·rcases wrs_app.1 hb with ⟨c,hc,h1⟩ | h1
  ·exact absurd h1 (hp c hc b).1
  ·exact .inl h1
 ·rcases rds_app.1 hb with ⟨c,hc,h1⟩ | h1
  ·exact absurd h1 (hp c hc b).2
  ·exact .inr (.inl h1)
theorem Tr.enterM {f:FuncId} {fn:Func} {c:Code} {args:List Value} {pre A:List Ch} {R:Value→List Ch→Prop} (E:Env P) (n:Nat) (hf:P.funcs[f]? = some fn) (hnm:(fn.name == "runtime.NumGoroutine") = false) (hb:fn.body = some c)
  (hn:fn.ntmps = n) (hl:Nat.ble args.length n = true) (hp:∀ c ∈ pre,∀ b,¬ c.wr b∧¬ c.rd b) (h:∀ w0,TC E ⟨n,[],none⟩ ⟨bodyPostM (FF none) 0 P fn (RetP (PR w0 A R)),w0,A⟩ [] c (argFr args 0) (pre ++ A)):Tr P f args pre A R:=by
 refine ⟨fun w hw=>Fn.enterM E n hf hnm hb hn hl ((h w).run w ⟨hw,Mv.refl w A |>.trans ⟨rfl,rfl,rfl,Nat.le_refl _,fun _ _ _=>rfl,fun b hb=>?_,fun b hb=>?_⟩⟩),hp⟩
 ·rcases wrs_app.1 hb with ⟨c,hc,h1⟩ | h1
  ·exact absurd h1 (hp c hc b).1
  ·exact .inl h1
 ·rcases rds_app.1 hb with ⟨c,hc,h1⟩ | h1
  ·exact absurd h1 (hp c hc b).2
  ·exact .inr (.inl h1)
/-! ### Control -/
theorem sq {a b:Code} (h:TC E n X (.code b :: s) a fr A):TC E n X s (.seq a b) fr A:=⟨fun w hw=>SC_seq (h.run w hw)⟩
theorem sk (h:TX E n X s .normal fr A):TC E n X s .skip fr A:=⟨fun w hw=>SC_skip (h.run w hw)⟩
theorem bk {id:Nat} (h:TC E n X (.block id :: s) c0 fr A):TC E n X s (.block id c0) fr A:=⟨fun w hw=>SC_block (h.run w hw)⟩
theorem rg {id:Nat} (h:TO E n X s l.toArray l fr A):TC E n X s (.region id l.toArray false) fr A:=⟨fun w hw=>SC_region (h.run w hw)⟩
theorem rq {id:Nat} (h:TQ E n X s l.toArray l fr A) (hB:Region.lexB .any l.toArray = true:=by kernel_rfl):TC E n X s (.region id l.toArray true) fr A:=
 ⟨fun w hw=>SC_regionQ (St X A) hB (hw.ext (Upd.draw w)) h.run⟩
theorem nl (h:TX E n X s .normal fr A):TO E n X s ops [] fr A:=⟨fun w hw=>SO_nil (h.run w hw)⟩
theorem nq (h:TX E n X s .normal fr A):TQ E n X s ops [] fr A:=⟨SQ_nil fun w hw=>h.run w hw⟩
theorem xc {y:Code} (h:TC E n X s y fr A):TX E n X (.code y :: s) .normal fr A:=⟨fun w hw=>SX_code (h.run w hw)⟩
theorem xb {id:Nat} (h:TX E n X s .normal fr A):TX E n X (.block id :: s) .normal fr A:=⟨fun w hw=>SX_block (h.run w hw)⟩
theorem xe {id:Nat} {s':List K} (k:TX E n X s' .normal fr A) (h:popX id s = some s':=by rfl):TC E n X s (.exit id) fr A:=⟨fun w hw=>SC_e h (k.run w hw)⟩
theorem rt (h:TX E n X [] .ret fr A):TC E n X s .ret fr A:=⟨fun w hw=>SC_r (h.run w hw)⟩
theorem ct {c:Operand} {x y:Code} (h:TC E n X s x fr A) (hc:ev fr c = some (.bool true):=by rfl):TC E n X s (.cond c x y) fr A:=⟨fun w hw=>SC_cond_t hc (h.run w hw)⟩
theorem cf {c:Operand} {x y:Code} (h:TC E n X s y fr A) (hc:ev fr c = some (.bool false):=by rfl):TC E n X s (.cond c x y) fr A:=⟨fun w hw=>SC_cond_f hc (h.run w hw)⟩
theorem cb {c:Operand} {x y:Code} {t:Bool} (h1:t = true→TC E n X s x fr A) (h2:t = false→TC E n X s y fr A) (hc:ev fr c = some (.bool t):=by rfl):TC E n X s (.cond c x y) fr A:=
 ⟨fun w hw=>SC_cond hc (fun h=>(h1 h).run w hw) fun h=>(h2 h).run w hw⟩
theorem ci {c:Operand} {x y:Code} {p:Prop} [Decidable p] (h1:p→TC E n X s x fr A) (h2:¬ p→TC E n X s y fr A) (hc:ev fr c = some (.bool (decide p)):=by rfl):TC E n X s (.cond c x y) fr A:=
 cb (fun h=>h1 (of_decide_eq_true h)) (fun h=>h2 (of_decide_eq_false h)) hc
theorem cn {c:Operand} {x y:Code} {p:Prop} [Decidable p] (h1:¬ p→TC E n X s x fr A) (h2:p→TC E n X s y fr A) (hc:ev fr c = some (.bool (!decide p)):=by rfl):TC E n X s (.cond c x y) fr A:=
 cb (fun h=>h1 (by simpa using h)) (fun h=>h2 (by simpa using h)) hc
theorem gc {c:Operand} {a b:Code} (h:TC E n X s (.cond c a b) fr A):TC E n X s (.cond c a b) fr A:=h
theorem TC.im (i:Im A B) (h:TC E n X s c0 fr B):TC E n X s c0 fr A:=⟨fun w hw=>h.run w (hw.im i)⟩
theorem TX.im (i:Im A B) (h:TX E n X s e fr B):TX E n X s e fr A:=⟨fun w hw=>h.run w (hw.im i)⟩
theorem TO.im (i:Im A B) (h:TO E n X s ops l fr B):TO E n X s ops l fr A:=⟨fun w hw=>h.run w (hw.im i)⟩
theorem TC.fact {p:Prop} (hp:∀ w,Sat A w→p) (h:p→TC E n X s c0 fr A):TC E n X s c0 fr A:=⟨fun w hw=>(h (hp w hw.sat)).run w hw⟩
theorem TO.fact {p:Prop} (hp:∀ w,Sat A w→p) (h:p→TO E n X s ops l fr A):TO E n X s ops l fr A:=⟨fun w hw=>(h (hp w hw.sat)).run w hw⟩
/-! ### Loops -/
def pickK:List Nat→Fr→(Fr→Prop)→Prop
 | [],_,k=>k []
 | t :: ts,fr,k=>match get fr t with
  | some v=>pickK ts fr fun r=>k ((t,v) :: r)
  | none=>pickK ts fr k
theorem pickK_sub:∀ {ts:List Nat} {fr:Fr} {k:Fr→Prop},pickK ts fr k→∃ fr',Sub fr' fr∧k fr'
 | [],_,_,h=>⟨[],Sub.nil,h⟩
 | t :: ts,fr,k,h=>by
  simp only [pickK] at h
  split at h
  ·rename_i v hv
   obtain ⟨fr',h1,h2⟩:=pickK_sub h
   exact ⟨_,Sub.cons hv rfl h1,h2⟩
  ·exact pickK_sub h
theorem Sub.app:∀ {a b fr:Fr},Sub a fr→Sub b fr→Sub (a ++ b) fr
 | [],_,_,_,hb=>hb
 | (t,v) :: a,b,fr,ha,hb=>by
  intro x u hx
  simp only [List.cons_append,get] at hx
  by_cases htx:t = x
  ·subst htx
   refine ha t u ?_
   simpa [get] using hx
  ·have e:(Nat.beq t x) = false:=nbeq_f htx
   simp only [e,cond_false] at hx
   have hsub:Sub (a ++ b) fr∨True:=.inr trivial
   by_cases hax:get a x = none
   ·have hab:∀ (a:Fr),get a x = none→get (a ++ b) x = get b x:=by
     intro a
     induction a with
     | nil=>intro _;rfl
     | cons p r ih=>
      intro hp
      obtain ⟨pt,pv⟩:=p
      simp only [get] at hp
      cases hb:Nat.beq pt x with
      | true=>rw [hb] at hp;cases hp
      | false=>rw [hb,cond_false] at hp;simp only [List.cons_append,get,hb,cond_false];exact ih hp
    rw [hab a hax] at hx
    exact hb x u hx
   ·obtain ⟨z,hz⟩ : ∃ z,get a x = some z:=by
     cases hg:get a x with
     | none=>exact absurd hg hax
     | some z=>exact ⟨z,rfl⟩
    have hab:∀ (a:Fr),get a x = some z→get (a ++ b) x = some z:=by
     intro a
     induction a with
     | nil=>intro h;cases h
     | cons p r ih=>
      intro hp
      obtain ⟨pt,pv⟩:=p
      simp only [get] at hp
      cases hb:Nat.beq pt x with
      | true=>rw [hb] at hp;simp only [List.cons_append,get,hb];exact hp
      | false=>rw [hb,cond_false] at hp;simp only [List.cons_append,get,hb,cond_false];exact ih hp
    rw [hab a hz] at hx
    cases hx
    refine ha x _ ?_
    simp only [get,e,cond_false];exact hz
def LoopT (n:Sh) (X:Cx) {ι:Type} (inv:ι→Fr) (J:ι→List Ch) (I:ι→Prop) (μ:ι→Nat) (i:ι) (a:Act) (w:World):Prop:=
 ∃ i',I i'∧Holds n a (inv i')∧St X (J i') w∧μ i' < μ i
theorem TC.loop {ι:Type} (inv:ι→Fr) (J:ι→List Ch) (I:ι→Prop) (μ:ι→Nat) (i0:ι) (keep:List Nat) (h0:I i0)
  (round:pickK keep fr fun kp=>∀ i,I i→TC E n X (.loop (LoopT n X (fun i=>inv i ++ kp) (fun i=>J i ++ F) I μ i) :: s) c0 (inv i ++ kp) (J i ++ F)) (hs:Sub (inv i0) fr:=by (repeat (refine Sub.cons rfl (by first | rfl | go_num) ?_));exact Sub.nil) (hf:Fit A (J i0) F:=by exact fitA):TC E n X s (.loop c0) fr A:=by
 obtain ⟨kp,hk,round⟩:=pickK_sub round
 refine ⟨fun w hw=>?_⟩
 have key:LoopK n (ι:=ι) (fun i=>inv i ++ kp) (fun i w=>I i∧St X (J i ++ F) w) μ = fun i=>LoopT n X (fun i=>inv i ++ kp) (fun i=>J i ++ F) I μ i:=by
  funext i a w
  apply propext
  constructor
  ·rintro ⟨i',⟨h1,h2⟩,h3,h4⟩;exact ⟨i',h1,h3,h2,h4⟩
  ·rintro ⟨i',h1,h3,h2,h4⟩;exact ⟨i',⟨h1,h2⟩,h3,h4⟩
 refine SC_loop (ι:=ι) (fun i=>inv i ++ kp) (fun i w=>I i∧St X (J i ++ F) w) μ i0 ⟨h0,hw.im hf⟩ (Sub.app hs hk) fun i w' ⟨hI,hS⟩=>?_
 rw [key]
 exact (round i hI).run w' hS
theorem lp {ι:Type} {inv:ι→Fr} {J:ι→List Ch} {I:ι→Prop} {μ:ι→Nat} {i:ι} {G:List Ch} (i':ι) (h:I i') (hs:Sub (inv i') fr:=by (repeat (refine Sub.cons rfl (by first | rfl | go_num) ?_));exact Sub.nil) (hf:Fit A (J i') G:=by exact fitA) (hlt:μ i' < μ i:=by first | omega | (dsimp only;omega)) :
  TX E n X (.loop (LoopT n X inv J I μ i) :: s) .normal fr A:=
 ⟨fun w hw=>⟨fun _ ha=>⟨i',h,ha.sub hs,hw.im (Im.trans hf (Im.drop _ _)),hlt⟩⟩⟩
/-! ### Operations -/
theorem TO.val (hr:∀ w,Sat A w→OpV P n fr o ty w v w) (k:TO E n X s ops rest ((d,v) :: fr) A) (hd:Nat.blt d n.n = true:=by rfl):TO E n X s ops (⟨some d,o,ty,pos,after,none⟩ :: rest) fr A:=
 ⟨fun w hw=>SO_v hd (hr w hw.sat) (k.run w hw)⟩
theorem TQ.val (hr:∀ w,Sat A w→OpV P n fr o ty w v w) (k:TQ E n X s ops rest ((d,v) :: fr) A) (hd:Nat.blt d n.n = true:=by rfl):TQ E n X s ops (⟨some d,o,ty,pos,after,none⟩ :: rest) fr A:=
 ⟨SQ_v hd (fun w hw=>hr w hw.sat) k.run⟩
theorem oa (k:TO E n X s ops rest ((d,v) :: fr) A) (h:evOp E fr o = some v:=by rfl) (hd:Nat.blt d n.n = true:=by rfl):TO E n X s ops (⟨some d,o,ty,pos,after,none⟩ :: rest) fr A:=TO.val (fun _ _=>R_auto h) k hd
theorem qa (k:TQ E n X s ops rest ((d,v) :: fr) A) (h:evOp E fr o = some v:=by rfl) (hd:Nat.blt d n.n = true:=by rfl):TQ E n X s ops (⟨some d,o,ty,pos,after,none⟩ :: rest) fr A:=TQ.val (fun _ _=>R_auto h) k hd
section
variable {op:BinOp} {t t':TypeId} {x y:Operand} {m q:Int} {z:Value} {by_:Nat} {el:TypeId} {xs:List Value} {i:Int} {k1 k2:IntKind} {lo hi:Int} {z1 z2:Operand}
theorem aw (k:TO E n X s ops rest ((d,I m) :: fr) A) (h:evOp E fr (.binOp op t x y t') = some (.int .i64 (IntKind.i64.wrap m)):=by rfl) (hb : -9223372036854775808 ≤ m∧m ≤ 9223372036854775807:=by omega) (hd:Nat.blt d n.n = true:=by rfl) :
  TO E n X s ops (⟨some d,.binOp op t x y t',ty,pos,after,none⟩ :: rest) fr A:=TO.val (fun _ _=>R_wrap (R_auto h) hb) k hd
theorem qaw (k:TQ E n X s ops rest ((d,I m) :: fr) A) (h:evOp E fr (.binOp op t x y t') = some (.int .i64 (IntKind.i64.wrap m)):=by rfl) (hb : -9223372036854775808 ≤ m∧m ≤ 9223372036854775807:=by omega) (hd:Nat.blt d n.n = true:=by rfl) :
  TQ E n X s ops (⟨some d,.binOp op t x y t',ty,pos,after,none⟩ :: rest) fr A:=TQ.val (fun _ _=>R_wrap (R_auto h) hb) k hd
theorem ao (h:TO E n X s ops (⟨some d,.binOp op t x y t',ty,pos,after,none⟩ :: rest) fr A):TO E n X s ops (⟨some d,.binOp op t x y t',ty,pos,after,none⟩ :: rest) fr A:=h
theorem qao (h:TQ E n X s ops (⟨some d,.binOp op t x y t',ty,pos,after,none⟩ :: rest) fr A):TQ E n X s ops (⟨some d,.binOp op t x y t',ty,pos,after,none⟩ :: rest) fr A:=h
theorem wo (h:TO E n X s ops l fr A):TO E n X s ops l fr A:=h
theorem wq (h:TQ E n X s ops l fr A):TQ E n X s ops l fr A:=h
theorem adiv (k:TO E n X s ops rest ((d,I (m / q)) :: fr) A) (hx:ev fr x = some (I m):=by rfl) (hy:ev fr y = some (I q):=by rfl) (hb:0 ≤ m∧m ≤ 9223372036854775807∧1 ≤ q:=by omega) (hd:Nat.blt d n.n = true:=by rfl) :
  TO E n X s ops (⟨some d,.binOp .quo t x y t',ty,pos,after,none⟩ :: rest) fr A:=TO.val (fun _ _=>R_quo64 hx hy hb) k hd
theorem amod (k:TO E n X s ops rest ((d,I (m % q)) :: fr) A) (hx:ev fr x = some (I m):=by rfl) (hy:ev fr y = some (I q):=by rfl) (hb:0 ≤ m∧q ≠ 0:=by omega) (hd:Nat.blt d n.n = true:=by rfl) :
  TO E n X s ops (⟨some d,.binOp .rem t x y t',ty,pos,after,none⟩ :: rest) fr A:=TO.val (fun _ _=>R_rem64 hx hy hb) k hd
/-! blocks of cells -/
theorem ptcell {w:World} {b j:Nat} {cs:List Value} {T:TypeId} (h:Sat A w) (hm:pt b cs T ∈ A) (hj:cs[j]? = some v):w.cell? ⟨b,j,none⟩ = some v:=blk_cell (h.h _ hm) (by simpa using hj)
theorem ld {b j:Nat} {cs:List Value} {T:TypeId} {dt:TypeDesc} (k:TO E n X s ops rest ((d,v) :: fr) A) (hx:ev fr x = some (.pointer (some ⟨b,j,none⟩)):=by rfl)
  (hm:pt b cs T ∈ A:=by exact memA) (hj:cs[j]? = some v:=by rfl) (ht:lk E.und t = some dt:=by rfl) (hg:aggB dt = false:=by rfl) (hd:Nat.blt d n.n = true:=by rfl) :
  TO E n X s ops (⟨some d,.load t x,ty,pos,after,none⟩ :: rest) fr A:=TO.val (fun _ h=>R_load ht hg hx (ptcell h hm hj)) k hd
theorem qld {b j:Nat} {cs:List Value} {T:TypeId} {dt:TypeDesc} (k:TQ E n X s ops rest ((d,v) :: fr) A) (hx:ev fr x = some (.pointer (some ⟨b,j,none⟩)):=by rfl)
  (hm:pt b cs T ∈ A:=by exact memA) (hj:cs[j]? = some v:=by rfl) (ht:lk E.und t = some dt:=by rfl) (hg:aggB dt = false:=by rfl) (hd:Nat.blt d n.n = true:=by rfl) :
  TQ E n X s ops (⟨some d,.load t x,ty,pos,after,none⟩ :: rest) fr A:=TQ.val (fun _ h=>R_load ht hg hx (ptcell h hm hj)) k hd
inductive SetAt (v:Value):List Value→Nat→List Value→Prop
 | z (c:Value) (r:List Value):SetAt v (c :: r) 0 (v :: r)
 | s (c:Value) {r r':List Value} {j:Nat}:SetAt v r j r'→SetAt v (c :: r) (j + 1) (c :: r')
theorem SetAt.eq {v:Value} {cs cs':List Value} {j:Nat} (h:SetAt v cs j cs'):cs' = cs.set j v∧j < cs.length:=by
 induction h with
 | z c r=>exact ⟨rfl,by simp⟩
 | s c _ ih=>exact ⟨by rw [ih.1];rfl,by simpa using ih.2⟩
theorem sr {b j:Nat} {cs cs':List Value} {T:TypeId} (k:TO E n X s ops rest fr (pt b cs' T :: A')) (ha:ev fr x = some (.pointer (some ⟨b,j,none⟩)):=by rfl)
  (hm:Tk (pt b cs T) A A':=by exact tkA) (hx:ev fr y = some v:=by rfl) (hv:v.oneCell' = true:=by first | rfl | assumption) (hs:SetAt v cs j cs':=by (repeat (first | exact SetAt.z _ _ | apply SetAt.s));first | done | fail)
  (ht:lk E.inf t = some (z,1,by_):=by rfl):TO E n X s ops (⟨none,.store t x y,ty,pos,after,none⟩ :: rest) fr A:=⟨fun w hw=>by
 have h1:=hw.im hm
 obtain ⟨rfl,hj⟩:=hs.eq
 refine SO_store ht ha hx hv (h1.mem (List.Mem.head _)) (lt_nblt (by simpa using hj)) fun w' hU hb=>k.run w' (h1.set hU (by simp [pt]) ?_ ?_ (by simp [pt]))
 ·show w'.heap[b]? = some (.cells (cs.set j v).toArray T (0,0))
  rw [hb];simp
 ·rintro x (rfl | h | h);exact .inl rfl;exact h.elim;exact h.elim⟩
theorem bx (k:∀ b,TO E n X s ops rest ((d,.pointer (some ⟨b,0,none⟩)) :: fr) (pt b v.cells.toList t :: A)) (hx:ev fr x = some v:=by rfl) (hd:Nat.blt d n.n = true:=by rfl) :
  TO E n X s ops (⟨some d,.box t x,ty,pos,after,none⟩ :: rest) fr A:=⟨fun w hw=>
 SO_box hd hx fun w' hE hz hb=>(k _).run w' (hw.new hE (by simpa [pt] using hb) (by rintro y (rfl | h | h);exact Nat.le_refl _;exact h.elim;exact h.elim) (by simp [pt]))⟩
theorem al {sz:Nat} (k:∀ b,TO E n X s ops rest ((d,.pointer (some ⟨b,0,none⟩)) :: fr) (pt b z.cells.toList t :: A)) (ht:lk E.inf t = some (z,sz,by_):=by rfl) (hd:Nat.blt d n.n = true:=by rfl) :
  TO E n X s ops (⟨some d,.alloc t,ty,pos,after,none⟩ :: rest) fr A:=⟨fun w hw=>
 SO_alloc hd ht fun w' hE hz hb=>(k _).run w' (hw.new hE (by simpa [pt] using hb) (by rintro y (rfl | h | h);exact Nat.le_refl _;exact h.elim;exact h.elim) (by simp [pt]))⟩
/-! slices -/
theorem has_sl {w:World} (h:Sat A w) (hh:Has A (vw v xs)):Sl w v xs:=hh.P w h
theorem ln (k:TO E n X s ops rest ((d,I xs.length) :: fr) A) (hx:ev fr x = some v:=by rfl) (hh:Has A (vw v xs):=by exact hasA) (ht:lk E.und t = some (.slice el):=by rfl) (hd:Nat.blt d n.n = true:=by rfl) :
  TO E n X s ops (⟨some d,.call ⟨.builtin .len,#[x],#[t]⟩,ty,pos,after,none⟩ :: rest) fr A:=TO.val (fun _ h=>R_len ht hx (has_sl h hh)) k hd
theorem qln (k:TQ E n X s ops rest ((d,I xs.length) :: fr) A) (hx:ev fr x = some v:=by rfl) (hh:Has A (vw v xs):=by exact hasA) (ht:lk E.und t = some (.slice el):=by rfl) (hd:Nat.blt d n.n = true:=by rfl) :
  TQ E n X s ops (⟨some d,.call ⟨.builtin .len,#[x],#[t]⟩,ty,pos,after,none⟩ :: rest) fr A:=TQ.val (fun _ h=>R_len ht hx (has_sl h hh)) k hd
theorem ix (k:TO E n X s ops rest ((d,.pointer (some (addrAt v i.toNat))) :: fr) A) (hx:ev fr x = some v:=by rfl) (hy:ev fr y = some (.int k1 i):=by rfl) (hh:Has A (vw v xs):=by exact hasA) (hb:0 ≤ i∧i < xs.length:=by omega)
  (ht:lk E.und t = some (.slice el):=by rfl) (he:lk E.inf el = some (z,1,by_):=by rfl) (hd:Nat.blt d n.n = true:=by rfl):TO E n X s ops (⟨some d,.indexAddr t x y,ty,pos,after,none⟩ :: rest) fr A:=
 TO.val (fun _ h=>R_idx ht he hx hy (has_sl h hh) hb) k hd
theorem qix (k:TQ E n X s ops rest ((d,.pointer (some (addrAt v i.toNat))) :: fr) A) (hx:ev fr x = some v:=by rfl) (hy:ev fr y = some (.int k1 i):=by rfl) (hh:Has A (vw v xs):=by exact hasA) (hb:0 ≤ i∧i < xs.length:=by omega)
  (ht:lk E.und t = some (.slice el):=by rfl) (he:lk E.inf el = some (z,1,by_):=by rfl) (hd:Nat.blt d n.n = true:=by rfl):TQ E n X s ops (⟨some d,.indexAddr t x y,ty,pos,after,none⟩ :: rest) fr A:=
 TQ.val (fun _ h=>R_idx ht he hx hy (has_sl h hh) hb) k hd
theorem le {j:Nat} {dt:TypeDesc} (k:TO E n X s ops rest ((d,u) :: fr) A) (hx:ev fr x = some (.pointer (some (addrAt v j))):=by rfl) (hh:Has A (vw v xs):=by exact hasA) (hj:xs[j]? = some u:=by first | rfl | assumption)
  (ht:lk E.und t = some dt:=by rfl) (hg:aggB dt = false:=by rfl) (hd:Nat.blt d n.n = true:=by rfl):TO E n X s ops (⟨some d,.load t x,ty,pos,after,none⟩ :: rest) fr A:=TO.val (fun _ h=>R_load ht hg hx ((has_sl h hh).cell hj)) k hd
theorem qle {j:Nat} {dt:TypeDesc} (k:TQ E n X s ops rest ((d,u) :: fr) A) (hx:ev fr x = some (.pointer (some (addrAt v j))):=by rfl) (hh:Has A (vw v xs):=by exact hasA) (hj:xs[j]? = some u:=by first | rfl | assumption)
  (ht:lk E.und t = some dt:=by rfl) (hg:aggB dt = false:=by rfl) (hd:Nat.blt d n.n = true:=by rfl):TQ E n X s ops (⟨some d,.load t x,ty,pos,after,none⟩ :: rest) fr A:=TQ.val (fun _ h=>R_load ht hg hx ((has_sl h hh).cell hj)) k hd
theorem ixn {i:Nat} (k:TO E n X s ops rest ((d,.pointer (some (addrAt v i))) :: fr) A) (hx:ev fr x = some v:=by rfl) (hy:ev fr y = some (.int k1 (i:Int)):=by rfl) (hh:Has A (vw v xs):=by exact hasA) (hb:i < xs.length:=by omega)
  (ht:lk E.und t = some (.slice el):=by rfl) (he:lk E.inf el = some (z,1,by_):=by rfl) (hd:Nat.blt d n.n = true:=by rfl):TO E n X s ops (⟨some d,.indexAddr t x y,ty,pos,after,none⟩ :: rest) fr A:=ix (i:=(i:Int)) k hx hy hh (by omega) ht he hd
theorem qixn {i:Nat} (k:TQ E n X s ops rest ((d,.pointer (some (addrAt v i))) :: fr) A) (hx:ev fr x = some v:=by rfl) (hy:ev fr y = some (.int k1 (i:Int)):=by rfl) (hh:Has A (vw v xs):=by exact hasA) (hb:i < xs.length:=by omega)
  (ht:lk E.und t = some (.slice el):=by rfl) (he:lk E.inf el = some (z,1,by_):=by rfl) (hd:Nat.blt d n.n = true:=by rfl):TQ E n X s ops (⟨some d,.indexAddr t x y,ty,pos,after,none⟩ :: rest) fr A:=qix (i:=(i:Int)) k hx hy hh (by omega) ht he hd
theorem sc {lo hi:Int} (k:TO E n X s ops rest ((d,slSub v lo.toNat hi.toNat) :: fr) A) (hx:ev fr x = some v:=by rfl) (hl:ev fr z1 = some (.int k1 lo):=by rfl) (hh:ev fr z2 = some (.int k2 hi):=by rfl) (hs:Has A (vw v xs):=by exact hasA) (hb:0 ≤ lo∧lo ≤ hi∧hi ≤ xs.length:=by omega)
  (ht:lk E.und t = some (.slice el):=by rfl) (he:lk E.inf el = some (z,1,by_):=by rfl) (hd:Nat.blt d n.n = true:=by rfl):TO E n X s ops (⟨some d,.slice t x (some z1) (some z2) none,ty,pos,after,none⟩ :: rest) fr A:=
 TO.val (fun _ h=>R_slice ht he hx hl hh (has_sl h hs) hb) k hd
theorem scl {lo:Int} (k:TO E n X s ops rest ((d,slSub v lo.toNat xs.length) :: fr) A) (hx:ev fr x = some v:=by rfl) (hl:ev fr z1 = some (.int k1 lo):=by rfl) (hs:Has A (vw v xs):=by exact hasA) (hb:0 ≤ lo∧lo ≤ xs.length:=by omega)
  (ht:lk E.und t = some (.slice el):=by rfl) (he:lk E.inf el = some (z,1,by_):=by rfl) (hd:Nat.blt d n.n = true:=by rfl):TO E n X s ops (⟨some d,.slice t x (some z1) none none,ty,pos,after,none⟩ :: rest) fr A:=
 TO.val (fun _ h=>R_sliceLo ht he hx hl (has_sl h hs) hb) k hd
theorem sch {hi:Int} (k:TO E n X s ops rest ((d,slSub v 0 hi.toNat) :: fr) A) (hx:ev fr x = some v:=by rfl) (hl:ev fr z1 = some (.int k1 hi):=by rfl) (hs:Has A (vw v xs):=by exact hasA) (hb:0 ≤ hi∧hi ≤ xs.length:=by omega)
  (ht:lk E.und t = some (.slice el):=by rfl) (he:lk E.inf el = some (z,1,by_):=by rfl) (hd:Nat.blt d n.n = true:=by rfl):TO E n X s ops (⟨some d,.slice t x none (some z1) none,ty,pos,after,none⟩ :: rest) fr A:=
 TO.val (fun _ h=>R_sliceHi ht he hx hl (has_sl h hs) hb) k hd
theorem so {j:Nat} {ys:List Value} {c:Value} (k:TO E n X s ops rest fr (own el v ys :: A')) (hx:ev fr x = some (.pointer (some (addrAt v j))):=by rfl) (hm:Tk (own el v xs) A A':=by exact tkA) (hy:ev fr y = some c:=by rfl)
  (hj:j < xs.length:=by omega) (hs:ys = xs.set j c:=by rfl) (hc:c.oneCell' = true:=by first | rfl | assumption) (ht:lk E.inf t = some (z,1,by_):=by rfl):TO E n X s ops (⟨none,.store t x y,ty,pos,after,none⟩ :: rest) fr A:=⟨fun w hw=>by
 subst hs
 have h1:=hw.im hm
 have h2:OwnO w el v xs:=h1.mem (List.Mem.head _)
 refine SO_storeO ht h2 hx hy hc hj fun w' hU hO=>k.run w' (h1.set hU (fun b hb=>.inl (by show v.ownBlock = some b;simpa using hb)) hO ?_ (fun _ h=>h))
 rintro b (hb | hb | hb);exact .inl hb;exact hb.elim;exact hb.elim⟩
theorem ap {news:List Value} {e:TypeId} (k:∀ v',TO E n X s ops rest ((d,v') :: fr) (own e v' (xs ++ news) :: A')) (hx:ev fr x = some v:=by rfl) (hy:ev fr y = some u:=by rfl) (hm:Tk (own e v xs) A A':=by exact tkA) (hu:Has A' (vw u news):=by exact hasA)
  (h1:∀ c ∈ news,c.oneCell' = true:=by simp) (ht:lk E.und t = some (.slice e):=by rfl) (he:lk E.inf e = some (z,1,by_):=by rfl) (hz:z.cells.size = 1:=by rfl) (hby:(xs.length + news.length) * by_ ≤ 140737488355328:=by simp;omega)
  (h63:xs.length + news.length ≤ 9223372036854775807:=by simp;omega) (hd:Nat.blt d n.n = true:=by rfl):TO E n X s ops (⟨some d,.call ⟨.builtin .append,#[x,y],#[t,t]⟩,ty,pos,after,none⟩ :: rest) fr A:=⟨fun w hw=>by
 have h2:=hw.im hm
 have h3:OwnO w e v xs:=h2.mem (List.Mem.head _)
 have h4:Sl w u news:=hu.P w (Sat.cons.1 h2.sat).2.2
 refine SO_appendO hd ht he hz hx hy h3 h4 h1 hby h63 fun v' w' hO hU hW=>(k v').run w' (h2.set hU (fun b hb=>.inl (by show v.ownBlock = some b;simpa using hb)) hO ?_ (fun _ h=>h))
 rintro b (hb' | hb' | hb')
 ·exact hW b hb'
 ·exact hb'.elim
 ·exact hb'.elim⟩
theorem St.own {w w':World} {e:TypeId} {g:Option Nat} (h:St X A w) (u':Ext w w') (hO:Own w' e g v xs) (hg:∀ b,g = some b→w.heap.size ≤ b):St X (own e v xs :: A) w':=by
 have hb:=hO.block
 refine h.new u' (OwnO.of hO) ?_ (fun _ h=>h)
 rintro b (h1 | h1 | h1)
 ·exact hg b (by rw [← hb];exact h1)
 ·exact h1.elim
 ·exact h1.elim
theorem sli {m:Nat} {parts:List (Nat × Operand)} {vs:List Value} {e:TypeId} (k:∀ v',TO E n X s ops rest ((d,v') :: fr) (own e v' vs :: A)) (hp:parts = idxP 0 (parts.map (·.2)):=by rfl) (hv:evs fr (parts.map (·.2)) = some vs:=by rfl)
  (h1:∀ v ∈ vs,v.oneCell' = true:=by simp;done) (hk:vs.length = m:=by rfl) (hk0:Nat.blt 0 m = true:=by rfl) (hkm:Nat.ble m 16777216 = true:=by rfl) (ht:lk E.und t = some (.slice e):=by rfl) (he:lk E.inf e = some (z,1,by_):=by rfl) (hd:Nat.blt d n.n = true:=by rfl) :
  TO E n X s ops (⟨some d,.buildSlice t m parts.toArray,ty,pos,after,none⟩ :: rest) fr A:=⟨fun w hw=>
 SO_slit hd ht he hp hv h1 hk hk0 hkm fun w' hE hO=>(k _).run w' (hw.own hE hO (by simp))⟩
theorem sl0 {e:TypeId} (k:∀ v',TO E n X s ops rest ((d,v') :: fr) (own e v' [] :: A)) (ht:lk E.und t = some (.slice e):=by rfl) (he:lk E.inf e = some (z,1,by_):=by rfl) (hd:Nat.blt d n.n = true:=by rfl) :
  TO E n X s ops (⟨some d,.buildSlice t 0 #[],ty,pos,after,none⟩ :: rest) fr A:=⟨fun w hw=>SO_slit0 hd ht he fun w' hE hO=>(k _).run w' (hw.own hE hO (by simp))⟩
theorem mk {e:TypeId} {m:Int} (k:∀ v',TO E n X s ops rest ((d,v') :: fr) (own e v' (List.replicate m.toNat z) :: A)) (hx:ev fr x = some (.int k1 m):=by rfl) (hy:ev fr y = some (.int k1 m):=by rfl) (ht:lk E.und t = some (.slice e):=by rfl) (he:lk E.inf e = some (z,1,by_):=by rfl)
  (hz:z.cells = #[z]:=by rfl) (h0:0 ≤ m:=by omega) (hby:by_ * m.toNat ≤ 281474976710656:=by omega) (h63:m ≤ 9223372036854775807:=by omega) (hd:Nat.blt d n.n = true:=by rfl) :
  TO E n X s ops (⟨some d,.makeSlice t x y,ty,pos,after,none⟩ :: rest) fr A:=⟨fun w hw=>SO_make hd ht he hz hx hy h0 hby h63 fun w' v hE hO=>(k v).run w' (hw.own hE hO (by simp))⟩
/-! nil -/
theorem isl {o':Option Addr} {l' c':Nat} (k:TO E n X s ops rest ((d,.bool o'.isNone) :: fr) A) (hx:ev fr x = some (.slice o' l' c'):=by rfl) (ht:lk E.und t = some (.slice el):=by rfl) (hd:Nat.blt d n.n = true:=by rfl) :
  TO E n X s ops (⟨some d,.binOp .eql t x (.const (.slice none 0 0)) t',ty,pos,after,none⟩ :: rest) fr A:=TO.val (fun _ _=>R_slEqNil ht hx) k hd
theorem ipe {p':Option Addr} (k:TO E n X s ops rest ((d,.bool p'.isNone) :: fr) A) (hx:ev fr x = some (.pointer p'):=by rfl) (ht:lk E.und t = some (.pointer el):=by rfl) (hd:Nat.blt d n.n = true:=by rfl) :
  TO E n X s ops (⟨some d,.binOp .eql t x (.const (.pointer none)) t',ty,pos,after,none⟩ :: rest) fr A:=TO.val (fun _ _=>R_ptrEqNil ht hx) k hd
theorem ipn {p':Option Addr} (k:TO E n X s ops rest ((d,.bool (!p'.isNone)) :: fr) A) (hx:ev fr x = some (.pointer p'):=by rfl) (ht:lk E.und t = some (.pointer el):=by rfl) (hd:Nat.blt d n.n = true:=by rfl) :
  TO E n X s ops (⟨some d,.binOp .neq t x (.const (.pointer none)) t',ty,pos,after,none⟩ :: rest) fr A:=TO.val (fun _ _=>R_ptrNeNil ht hx) k hd
end
/-! ### Guards -/
section
variable {dst:Option Nat} {j dj dd:Nat} {b b':Bool}
theorem gy (h:TO E n X s ops (⟨dst,o,ty,pos,after,none⟩ :: rest) fr A) (hd:(ops[j]?).bind (·.dst) = some dj:=by rfl) (hg:get fr dj = some (.bool b):=by rfl) (hlt:Nat.blt dj n.n = true:=by rfl):TO E n X s ops (⟨dst,o,ty,pos,after,some (j,b)⟩ :: rest) fr A:=
 ⟨fun w hw=>SO_yes hd hg hlt (h.run w hw)⟩
theorem gn (h:TO E n X s ops rest ((dd,undef) :: fr) A) (hd:(ops[j]?).bind (·.dst) = some dj:=by rfl) (hg:get fr dj = some (.bool b):=by rfl) (hb:b = !b':=by rfl) (hlt:Nat.blt dj n.n = true:=by rfl) (hdd:Nat.blt dd n.n = true:=by rfl):TO E n X s ops (⟨some dd,o,ty,pos,after,some (j,b')⟩ :: rest) fr A:=
 ⟨fun w hw=>SO_no hd hg hlt hb hdd (h.run w hw)⟩
theorem gu (h:TO E n X s ops rest ((dd,undef) :: fr) A) (hd:(ops[j]?).bind (·.dst) = some dj:=by rfl) (hg:get fr dj = some undef:=by rfl) (hlt:Nat.blt dj n.n = true:=by rfl) (hdd:Nat.blt dd n.n = true:=by rfl):TO E n X s ops (⟨some dd,o,ty,pos,after,some (j,b')⟩ :: rest) fr A:=
 ⟨fun w hw=>SO_nu hd hg hlt hdd (h.run w hw)⟩
theorem TO.split {t:Nat} (h1:b = true→TO E n X s ops l ((t,.bool true) :: fr) A) (h2:b = false→TO E n X s ops l ((t,.bool false) :: fr) A) (hg:get fr t = some (.bool b)):TO E n X s ops l fr A:=⟨fun w hw=>SO_split hg (fun h=>(h1 h).run w hw) fun h=>(h2 h).run w hw⟩
theorem gs (h1:b = true→TO E n X s ops (⟨dst,o,ty,pos,after,some (j,b')⟩ :: rest) ((dj,.bool true) :: fr) A) (h2:b = false→TO E n X s ops (⟨dst,o,ty,pos,after,some (j,b')⟩ :: rest) ((dj,.bool false) :: fr) A)
  (hd:(ops[j]?).bind (·.dst) = some dj:=by rfl) (hg:get fr dj = some (.bool b):=by rfl):TO E n X s ops (⟨dst,o,ty,pos,after,some (j,b')⟩ :: rest) fr A:=TO.split h1 h2 hg
theorem gsi {p:Prop} [Decidable p] (h1:p→TO E n X s ops (⟨dst,o,ty,pos,after,some (j,b')⟩ :: rest) ((dj,.bool true) :: fr) A) (h2:¬ p→TO E n X s ops (⟨dst,o,ty,pos,after,some (j,b')⟩ :: rest) ((dj,.bool false) :: fr) A)
  (hd:(ops[j]?).bind (·.dst) = some dj:=by rfl) (hg:get fr dj = some (.bool (decide p)):=by rfl):TO E n X s ops (⟨dst,o,ty,pos,after,some (j,b')⟩ :: rest) fr A:=TO.split (fun h=>h1 (of_decide_eq_true h)) (fun h=>h2 (of_decide_eq_false h)) hg
theorem gsn {p:Prop} [Decidable p] (h1:¬ p→TO E n X s ops (⟨dst,o,ty,pos,after,some (j,b')⟩ :: rest) ((dj,.bool true) :: fr) A) (h2:p→TO E n X s ops (⟨dst,o,ty,pos,after,some (j,b')⟩ :: rest) ((dj,.bool false) :: fr) A)
  (hd:(ops[j]?).bind (·.dst) = some dj:=by rfl) (hg:get fr dj = some (.bool (!decide p)):=by rfl):TO E n X s ops (⟨dst,o,ty,pos,after,some (j,b')⟩ :: rest) fr A:=TO.split (fun h=>h1 (by simpa using h)) (fun h=>h2 (by simpa using h)) hg
theorem qgy (h:TQ E n X s ops (⟨dst,o,ty,pos,after,none⟩ :: rest) fr A) (hd:(ops[j]?).bind (·.dst) = some dj:=by rfl) (hg:get fr dj = some (.bool b):=by rfl) (hlt:Nat.blt dj n.n = true:=by rfl):TQ E n X s ops (⟨dst,o,ty,pos,after,some (j,b)⟩ :: rest) fr A:=⟨SQ_yes hd hg hlt h.run⟩
theorem qgn (h:TQ E n X s ops rest ((dd,undef) :: fr) A) (hd:(ops[j]?).bind (·.dst) = some dj:=by rfl) (hg:get fr dj = some (.bool b):=by rfl) (hb:b = !b':=by rfl) (hlt:Nat.blt dj n.n = true:=by rfl) (hdd:Nat.blt dd n.n = true:=by rfl):TQ E n X s ops (⟨some dd,o,ty,pos,after,some (j,b')⟩ :: rest) fr A:=⟨SQ_no hd hg hlt hb hdd h.run⟩
theorem qgu (h:TQ E n X s ops rest ((dd,undef) :: fr) A) (hd:(ops[j]?).bind (·.dst) = some dj:=by rfl) (hg:get fr dj = some undef:=by rfl) (hlt:Nat.blt dj n.n = true:=by rfl) (hdd:Nat.blt dd n.n = true:=by rfl):TQ E n X s ops (⟨some dd,o,ty,pos,after,some (j,b')⟩ :: rest) fr A:=⟨SQ_nu hd hg hlt hdd h.run⟩
theorem qgs (h1:b = true→TQ E n X s ops (⟨dst,o,ty,pos,after,some (j,b')⟩ :: rest) ((dj,.bool true) :: fr) A) (h2:b = false→TQ E n X s ops (⟨dst,o,ty,pos,after,some (j,b')⟩ :: rest) ((dj,.bool false) :: fr) A)
  (hd:(ops[j]?).bind (·.dst) = some dj:=by rfl) (hg:get fr dj = some (.bool b):=by rfl):TQ E n X s ops (⟨dst,o,ty,pos,after,some (j,b')⟩ :: rest) fr A:=⟨SQ_gsplit hd hg (fun h=>(h1 h).run) fun h=>(h2 h).run⟩
theorem qgsi {p:Prop} [Decidable p] (h1:p→TQ E n X s ops (⟨dst,o,ty,pos,after,some (j,b')⟩ :: rest) ((dj,.bool true) :: fr) A) (h2:¬ p→TQ E n X s ops (⟨dst,o,ty,pos,after,some (j,b')⟩ :: rest) ((dj,.bool false) :: fr) A)
  (hd:(ops[j]?).bind (·.dst) = some dj:=by rfl) (hg:get fr dj = some (.bool (decide p)):=by rfl):TQ E n X s ops (⟨dst,o,ty,pos,after,some (j,b')⟩ :: rest) fr A:=qgs (fun h=>h1 (of_decide_eq_true h)) (fun h=>h2 (of_decide_eq_false h)) hd hg
theorem qgsn {p:Prop} [Decidable p] (h1:¬ p→TQ E n X s ops (⟨dst,o,ty,pos,after,some (j,b')⟩ :: rest) ((dj,.bool true) :: fr) A) (h2:p→TQ E n X s ops (⟨dst,o,ty,pos,after,some (j,b')⟩ :: rest) ((dj,.bool false) :: fr) A)
  (hd:(ops[j]?).bind (·.dst) = some dj:=by rfl) (hg:get fr dj = some (.bool (!decide p)):=by rfl):TQ E n X s ops (⟨dst,o,ty,pos,after,some (j,b')⟩ :: rest) fr A:=qgs (fun h=>h1 (by simpa using h)) (fun h=>h2 (by simpa using h)) hd hg
end
/-! ### Calls -/
section
variable {f:FuncId} {args:List Operand} {ats:Array TypeId} {vs:List Value} {pre B:List Ch} {R:Value→List Ch→Prop} {cap:Array Value} {g:Operand}
theorem Tr.at {w:World} (hf:Tr P f vs pre B R) (hs:Fit A B F) (hp:∀ c ∈ pre,Has F c) (hw:St X A w):Fn P f vs w fun v w'=>∃ D,R v D∧St X (D ++ F) w':=by
 have h1:=hw.im hs
 refine (hf.run w (lend h1.sat hp)).mono fun v w' ⟨D,hR,hS,hM,hB⟩=>⟨D,hR,h1.step hM hS hB⟩
theorem has0 {F:List Ch}:∀ c ∈ ([]:List Ch),Has F c:=fun _ h=>nomatch h
theorem has00:∀ c ∈ ([]:List Ch),∀ b,¬ c.wr b∧¬ c.rd b:=fun _ h=>nomatch h
theorem has01 {c:Ch} {pre:List Ch} [h:Lent c] (k:∀ c ∈ pre,∀ b,¬ c.wr b∧¬ c.rd b):∀ x ∈ c :: pre,∀ b,¬ x.wr b∧¬ x.rd b:=fun x hx=>by rcases List.mem_cons.1 hx with rfl | hx;exact h.lent;exact k x hx
theorem has1 {F:List Ch} {c:Ch} {pre:List Ch} (h:Has F c) (k:∀ c ∈ pre,Has F c):∀ x ∈ c :: pre,Has F x:=fun x hx=>by rcases List.mem_cons.1 hx with rfl | hx;exact h;exact k x hx
theorem ca (hf:Tr P f vs pre B R) (k:∀ v D,R v D→TO E n X s ops rest ((d,v) :: fr) (D ++ F)) (hv:evs fr args = some vs:=by rfl) (hs:Fit A B F:=by exact fitA)
  (hp:∀ c ∈ pre,Has F c:=by (repeat (first | exact has0 | refine has1 hasA ?_));first | done | fail) (hd:Nat.blt d n.n = true:=by rfl):TO E n X s ops (⟨some d,.call ⟨.value (.func f),args.toArray,ats⟩,ty,pos,after,none⟩ :: rest) fr A:=
 ⟨fun w hw=>SO_call hv hd (hf.at hs hp hw) fun v w' ⟨D,hR,hS⟩=>(k v D hR).run w' hS⟩
theorem cav (hf:Tr P f (vs ++ cap.toList) pre B R) (k:∀ v D,R v D→TO E n X s ops rest ((d,v) :: fr) (D ++ F)) (hg:ev fr g = some (.func (.func f) #[] cap):=by rfl) (hv:evs fr args = some vs:=by rfl) (hs:Fit A B F:=by exact fitA)
  (hp:∀ c ∈ pre,Has F c:=by (repeat (first | exact has0 | refine has1 hasA ?_));first | done | fail) (hd:Nat.blt d n.n = true:=by rfl):TO E n X s ops (⟨some d,.call ⟨.value g,args.toArray,ats⟩,ty,pos,after,none⟩ :: rest) fr A:=
 ⟨fun w hw=>SO_callv hg hv hd (hf.at hs hp hw) fun v w' ⟨D,hR,hS⟩=>(k v D hR).run w' hS⟩
theorem qca (hf:Tr P f vs pre [] R) (hR:∀ u D,R u D→u = v∧D = []) (k:TQ E n X s ops rest ((d,v) :: fr) A) (hv:evs fr args = some vs:=by rfl)
  (hp:∀ c ∈ pre,Has A c:=by (repeat (first | exact has0 | refine has1 hasA ?_));first | done | fail) (hd:Nat.blt d n.n = true:=by rfl):TQ E n X s ops (⟨some d,.call ⟨.value (.func f),args.toArray,ats⟩,ty,pos,after,none⟩ :: rest) fr A:=
 ⟨SQ_call hv hd (fun w hw=>(hf.at (F:=A) Fit.nil hp hw).mono fun u w' ⟨D,hu,hS⟩=>by obtain ⟨rfl,rfl⟩:=hR u D hu;exact ⟨rfl,hS⟩) k.run⟩
end
/-! ### The end -/
section
variable {R:Value→List Ch→Prop} {fn:Func} {w0:World} {A0 D G:List Ch} {t t2 t3 nn:Nat} {v1 v2 v3:Value}
theorem PR.mk {w:World} (h:R v D) (hw:St ⟨bodyPost P fn (RetP (PR w0 A0 R)),w0,A0⟩ A w) (hf:Fit A D G) (nb:∀ c ∈ D,∀ b,¬ c.bd b):PR w0 A0 R v w:=by
 have h1:=hw.im (Im.trans hf (Im.drop _ _))
 exact ⟨D,h,h1.sat,h1.mv,nb⟩
theorem nb0:∀ c ∈ ([]:List Ch),∀ b,¬ c.bd b:=fun _ h=>nomatch h
theorem nb1 {c:Ch} {D:List Ch} [h:NoB c] (k:∀ c ∈ D,∀ b,¬ c.bd b):∀ x ∈ c :: D,∀ b,¬ x.bd b:=fun x hx=>by rcases List.mem_cons.1 hx with rfl | hx;exact h.nb;exact k x hx
theorem r0 (h:R (.tuple #[]) D) (hr:fn.results = #[]:=by rfl) (hf:Fit A D G:=by exact fitA) (nb:∀ c ∈ D,∀ b,¬ c.bd b:=by (repeat (first | exact nb0 | refine nb1 ?_));first | done | fail) :
  TX E ⟨nn,[],none⟩ ⟨bodyPost P fn (RetP (PR w0 A0 R)),w0,A0⟩ [] .ret fr A:=⟨fun w hw=>SX_ret0 rfl hr (PR.mk h hw hf nb)⟩
theorem e0 (h:R (.tuple #[]) D) (hr:fn.results = #[]:=by rfl) (hf:Fit A D G:=by exact fitA) (nb:∀ c ∈ D,∀ b,¬ c.bd b:=by (repeat (first | exact nb0 | refine nb1 ?_));first | done | fail) :
  TX E ⟨nn,[],none⟩ ⟨bodyPost P fn (RetP (PR w0 A0 R)),w0,A0⟩ [] .normal fr A:=⟨fun w hw=>SX_end0 rfl hr (PR.mk h hw hf nb)⟩
theorem r1 (h:R v D) (hr:fn.results = #[.tmp t]:=by rfl) (hv:get fr t = some v:=by rfl) (hf:Fit A D G:=by exact fitA) (nb:∀ c ∈ D,∀ b,¬ c.bd b:=by (repeat (first | exact nb0 | refine nb1 ?_));first | done | fail) :
  TX E ⟨nn,[],none⟩ ⟨bodyPost P fn (RetP (PR w0 A0 R)),w0,A0⟩ [] .ret fr A:=⟨fun w hw=>SX_ret1 rfl hr hv (PR.mk h hw hf nb)⟩
theorem r2 (h:R (.tuple #[v1,v2]) D) (hr:fn.results = #[.tmp t,.tmp t2]:=by rfl) (hv:get fr t = some v1:=by rfl) (hv2:get fr t2 = some v2:=by rfl) (hf:Fit A D G:=by exact fitA) (nb:∀ c ∈ D,∀ b,¬ c.bd b:=by (repeat (first | exact nb0 | refine nb1 ?_));first | done | fail) :
  TX E ⟨nn,[],none⟩ ⟨bodyPost P fn (RetP (PR w0 A0 R)),w0,A0⟩ [] .ret fr A:=⟨fun w hw=>SX_ret2 rfl hr hv hv2 (PR.mk h hw hf nb)⟩
theorem r3 (h:R (.tuple #[v1,v2,v3]) D) (hr:fn.results = #[.tmp t,.tmp t2,.tmp t3]:=by rfl) (hv:get fr t = some v1:=by rfl) (hv2:get fr t2 = some v2:=by rfl) (hv3:get fr t3 = some v3:=by rfl) (hf:Fit A D G:=by exact fitA)
  (nb:∀ c ∈ D,∀ b,¬ c.bd b:=by (repeat (first | exact nb0 | refine nb1 ?_));first | done | fail):TX E ⟨nn,[],none⟩ ⟨bodyPost P fn (RetP (PR w0 A0 R)),w0,A0⟩ [] .ret fr A:=⟨fun w hw=>SX_ret3 rfl hr hv hv2 hv3 (PR.mk h hw hf nb)⟩
end
theorem Tr.fn {f:FuncId} {args:List Value} {pre:List Ch} {R:Value→List Ch→Prop} (h:Tr P f args pre [] R) {w:World} (hw:Sat pre w):Fn P f args w fun v w'=>Ext w w'∧∃ D,R v D∧Sat D w'∧∀ b,fts D b→w.heap.size ≤ b:=
 (h.run w (by simpa using hw)).mono fun v w' ⟨D,h1,h2,h3,h4⟩=>⟨⟨h3.os,h3.tape,h3.output,h3.size,fun k hk _=>h3.block k hk wrs_nil⟩,D,h1,h2,fun b ⟨c,hc,hb⟩=>by
  rcases hb with hb | hb | hb
  ·rcases h3.wr b ⟨c,hc,hb⟩ with h | h;exact absurd h wrs_nil;exact h
  ·rcases h3.rd b ⟨c,hc,hb⟩ with h | h | h;exact absurd h wrs_nil;exact absurd h rds_nil;exact h
  ·exact absurd hb (h4 c hc b)⟩
end
end Go.Art
