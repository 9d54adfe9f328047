/- Texts put together: Df Zu Fc Fd Fp Qq Rx Rw Hp Hq Ak Mk Qr Qs Gl Gs Qv Qw Qx Rz Rv Ry Fr Sr StopF StopG StopH StopI StopJ StopK StopN. Conditions: none. -/
import Derived.Test.YtpabbhpgikdhfaaGreatWLd
set_option linter.unusedSimpArgs false
set_option linter.unusedVariables false
namespace Go.Art
open Go Go.Proofs Go.RowKit
section
variable {P:Program} {E:Env P} {n:Sh} {X:Cx} {s:List K} {fr:Fr} {A A' B F D G:List Ch} {ops:Array Oper} {rest l:List Oper} {d:Nat} {o:Op} {ty t t':TypeId} {pos:String} {after:Array Edge} {v u:Value} {w:World} {Q0:Exit→Act→World→Prop}
structure FnD (P:Program) (f:FuncId) (args:List Value) (w:World) (R:Value→World→Prop):Prop where
 can:Callable P f
 calls:∀ u,CallsDIn (FF none) 0 P f args.toArray u w fun e u' w'=>u' = u∧∃ v,e = .returned v∧R v w'
theorem FnD.enter {f:FuncId} {fn:Func} {c:Code} {args:List Value} {R:Value→World→Prop} (E:Env P) (n:Nat) (hf:P.funcs[f]? = some fn) (hnm:(fn.name == "runtime.NumGoroutine") = false) (hb:fn.body = some c)
  (hn:fn.ntmps = n) (hl:Nat.ble args.length n = true) (h:SC E ⟨n,[],none⟩ (bodyPost P fn (RetP R)) [] c (argFr args 0) w):FnD P f args w R:=by
 refine ⟨⟨fn,hf,hnm,by simp [hb]⟩,fun u=>callsDIn_of_wp hf hb trivial ?_⟩
 subst hn
 have hl':args.length ≤ fn.ntmps:=Nat.le_of_ble_eq_true hl
 exact h.run _ ⟨by simp;omega,rfl,argFr_slot args fn.ntmps⟩
structure TrD (P:Program) (f:FuncId) (args:List Value) (pre A:List Ch) (R:Value→List Ch→Prop):Prop where
 run:∀ w,Sat (pre ++ A) w→FnD P f args w (PR w A R)
 lent:∀ c ∈ pre,∀ b,¬ c.wr b∧¬ c.rd b
theorem St.startD {X:Cx} {pre:List Ch} {w:World} (hw:Sat (pre ++ X.A0) w) (hx:X.w0 = w) (hp:∀ c ∈ pre,∀ b,¬ c.wr b∧¬ c.rd b):St X (pre ++ X.A0) w:=by
 subst hx
 refine ⟨hw,(Mv.refl X.w0 X.A0).trans ⟨rfl,rfl,rfl,Nat.le_refl _,fun _ _ _=>rfl,fun b hb=>?_,fun b hb=>?_⟩⟩
 ·rcases wrs_app.1 hb with ⟨c,hc,h1⟩ | h1
  ·exact absurd h1 (hp c hc b).1
  ·exact .inl h1
 ·rcases rds_app.1 hb with ⟨c,hc,h1⟩ | h1
  ·exact absurd h1 (hp c hc b).2
  ·exact .inr (.inl h1)
theorem TrD.enter {f:FuncId} {fn:Func} {c:Code} {args:List Value} {pre A:List Ch} {R:Value→List Ch→Prop} (E:Env P) (n:Nat) (hf:P.funcs[f]? = some fn) (hnm:(fn.name == "runtime.NumGoroutine") = false) (hb:fn.body = some c)
  (hn:fn.ntmps = n) (hl:Nat.ble args.length n = true) (hp:∀ c ∈ pre,∀ b,¬ c.wr b∧¬ c.rd b) (h:∀ w0,TC E ⟨n,[],none⟩ ⟨bodyPost P fn (RetP (PR w0 A R)),w0,A⟩ [] c (argFr args 0) (pre ++ A)):TrD P f args pre A R:=
 ⟨fun w hw=>FnD.enter E n hf hnm hb hn hl ((h w).run w (St.startD (X:=⟨_,w,A⟩) hw rfl hp)),hp⟩
abbrev DP (P:Program) (fn:Func) (w0:World) (A:List Ch) (R:Value→List Ch→Prop):Exit→Act→World→Prop:=bodyPostDIn (FF none) 0 P fn (RetP (PR w0 A R))
theorem Tr.enterD {f:FuncId} {fn:Func} {c:Code} {args:List Value} {pre A:List Ch} {R:Value→List Ch→Prop} (E:Env P) (n:Nat) (hf:P.funcs[f]? = some fn) (hnm:(fn.name == "runtime.NumGoroutine") = false) (hb:fn.body = some c)
  (hn:fn.ntmps = n) (hl:Nat.ble args.length n = true) (hp:∀ c ∈ pre,∀ b,¬ c.wr b∧¬ c.rd b) (h:∀ w0,TC E ⟨n,[],none⟩ ⟨DP P fn w0 A R,w0,A⟩ [] c (argFr args 0) (pre ++ A)):Tr P f args pre A R:=by
 refine ⟨fun w hw=>⟨⟨fn,hf,hnm,by simp [hb]⟩,calls_of_FF (r:=none) (k:=0) (callsIn_of_wp_defers hf hb trivial ?_)⟩,hp⟩
 have h1:=(h w).run w (St.startD (X:=⟨_,w,A⟩) hw rfl hp)
 subst hn
 have hl':args.length ≤ fn.ntmps:=Nat.le_of_ble_eq_true hl
 exact h1.run _ ⟨by simp;omega,rfl,argFr_slot args fn.ntmps⟩
theorem run_resolveF {f:FuncId} {a:Act} {g:Operand} {cap:Array Value} {xs:List Operand} {ats:Array TypeId} {vs:List Value} (hg:a.eval g = .func (.func f) #[] cap) (hv:xs.map a.eval = vs) :
  (resolve a.eval ⟨.value g,xs.toArray,ats⟩ ty).run P w = .ok { target:=.fn (.func f) cap,args:=vs.toArray } w:=by
 have h2:(Array.map a.eval xs.toArray) = vs.toArray:=by simp [hv]
 simp only [resolve,h2,hg,Deferred.ofValue]
 simp
theorem SO_defer {m:Nat} {ds:List Deferred} {f:FuncId} {g:Operand} {cap:Array Value} {xs:List Operand} {ats:Array TypeId} {vs:List Value} (hg:ev fr g = some (.func (.func f) #[] cap)) (hv:evs fr xs = some vs)
  (h:SO E ⟨m,{ target:=.fn (.func f) cap,args:=vs.toArray } :: ds,none⟩ Q0 s ops rest fr w):SO E ⟨m,ds,none⟩ Q0 s ops (⟨none,.defer ⟨.value g,xs.toArray,ats⟩,ty,pos,after,none⟩ :: rest) fr w:=⟨fun a ha=>
 wpListIn_plain rfl fun K hK=>⟨fun _ _=>trivial,by
  have h1:=run_resolveF (P:=P) (w:=w) (ats:=ats) (ty:=ty) (ha.ev hg) (ha.evs hv)
  have h2:(execOp a.eval ⟨none,.defer ⟨.value g,xs.toArray,ats⟩,ty,pos,after,none⟩).run P w = .ok (.defer { target:=.fn (.func f) cap,args:=vs.toArray }) w:=by
   simp only [execOp]
   simp only [Sem.run_bind,h1,Result.andThen_ok]
   rfl
  have h3:(Oper.semAt (FF none).round a.eval ⟨none,.defer ⟨.value g,xs.toArray,ats⟩,ty,pos,after,none⟩).run P w = .ok (.defer { target:=.fn (.func f) cap,args:=vs.toArray }) w:=h2
  rw [h3]
  simp only [Oper.uponIn]
  exact hK _ _ (h.run _ ⟨ha.size,by show _ :: a.defers = _;rw [ha.defers],ha.slot⟩)⟩⟩
theorem df {m:Nat} {ds:List Deferred} {f:FuncId} {g:Operand} {cap:Array Value} {xs:List Operand} {ats:Array TypeId} {vs:List Value} (k:TO E ⟨m,{ target:=.fn (.func f) cap,args:=vs.toArray } :: ds,none⟩ X s ops rest fr A) (hg:ev fr g = some (.func (.func f) #[] cap):=by rfl) (hv:evs fr xs = some vs:=by rfl) :
  TO E ⟨m,ds,none⟩ X s ops (⟨none,.defer ⟨.value g,xs.toArray,ats⟩,ty,pos,after,none⟩ :: rest) fr A:=⟨fun w hw=>SO_defer hg hv (k.run w hw)⟩
theorem TrD.at {f:FuncId} {vs:List Value} {pre:List Ch} {R:Value→List Ch→Prop} {w:World} (hf:TrD P f vs pre B R) (hs:Fit A B F) (hp:∀ c ∈ pre,Has F c) (hw:St X A w):FnD P f vs w fun v w'=>∃ D,R v D∧St X (D ++ F) w':=by
 have h1:=hw.im hs
 have h2:=hf.run w (lend h1.sat hp)
 refine ⟨h2.can,fun u=>?_⟩
 obtain ⟨g1,g2⟩:=h2.calls u
 refine ⟨g1,fun c cs hc hr=>?_⟩
 obtain ⟨e,u',w',fr,⟨q1,v,q2,D,hR,hS,hM,hB⟩,q3⟩:=g2 c cs hc hr
 exact ⟨e,u',w',fr,⟨q1,v,q2,D,hR,h1.step hM hS hB⟩,q3⟩
theorem rD {m:Nat} {ds:List Deferred} {f:FuncId} {fn:Func} {vs:List Value} {cap:Array Value} {pre:List Ch} {w0:World} {A0:List Ch} {R R':Value→List Ch→Prop} (hf:TrD P f (vs ++ cap.toList) pre B R') (k:∀ v D,R' v D→TX E ⟨m,ds,none⟩ ⟨DP P fn w0 A0 R,w0,A0⟩ [] .ret fr (D ++ F)) (hs:Fit A B F:=by exact fitA)
  (hp:∀ c ∈ pre,Has F c:=by (repeat (first | exact has0 | refine has1 hasA ?_));first | done | fail):TX E ⟨m,{ target:=.fn (.func f) cap,args:=vs.toArray } :: ds,none⟩ ⟨DP P fn w0 A0 R,w0,A0⟩ [] .ret fr A:=⟨fun w hw=>⟨fun a ha=>by
 show LeavesIn (FF none) 0 P fn a.tmps (RetP (PR w0 A0 R)) a.defers .returning w
 rw [ha.defers]
 have h1:=hf.at hs hp hw
 have h2:=run_callFunc_fn h1.can (vs ++ cap.toList).toArray w
 have h3:vs.toArray ++ cap = (vs ++ cap.toList).toArray:=by simp
 unfold LeavesIn
 refine ⟨by simp,fun h=>(by cases h),.func f,cap,f,(vs ++ cap.toList).toArray,rfl,?_,fun _ _=>trivial,?_⟩
 ·simp only [invoke,h3];exact h2
 ·obtain ⟨g1,g2⟩:=h1.calls .returning
  refine ⟨g1,fun c cs hc hr=>?_⟩
  obtain ⟨e,u',w',fr',⟨q1,v,q2,D,hR,hS⟩,q3⟩:=g2 c cs hc hr
  refine ⟨e,u',w',fr',?_,q3⟩
  subst q1;subst q2
  exact ((k v D hR).run w' hS).run { a with defers:=ds } ⟨ha.size,rfl,ha.slot⟩⟩⟩
theorem rDn {m:Nat} {fn:Func} {w0:World} {A0:List Ch} {R:Value→List Ch→Prop} (h:R v D) (hr:∀ w,Sat A w→∀ a,Holds ⟨m,[],none⟩ a fr→(results fn a.tmps).run P w = .ok v w) (hf:Fit A D G:=by exact fitA) (nb:∀ c ∈ D,∀ b,¬ c.bd b:=by (repeat (first | exact nb0 | refine nb1 ?_));first | done | fail) :
  TX E ⟨m,[],none⟩ ⟨DP P fn w0 A0 R,w0,A0⟩ [] .ret fr A:=⟨fun w hw=>⟨fun a ha=>by
 show LeavesIn (FF none) 0 P fn a.tmps (RetP (PR w0 A0 R)) a.defers .returning w
 rw [ha.defers]
 unfold LeavesIn
 have h1:=hw.im (Im.trans hf (Im.drop _ _))
 exact ⟨v,hr w hw.sat a ha,v,rfl,D,h,h1.sat,h1.mv,nb⟩⟩⟩
end
end Go.Art
namespace Go.Art
open Go Go.Proofs Go.RowKit
abbrev wU (n:Int):Value:=.int .u64 n
def Zs (l:List Nat):List Int:=l.map Int.ofNat
theorem Us_eq (l:List Nat):Us l = (Zs l).map wU:=by unfold Zs;rw [List.map_map];rfl
open Go Go.Proofs Go.RowKit
def hpc:List (Value × Value)→List Value
 | []=>[]
 | p :: r=>p.1 :: p.2 :: hpc r
def pcl:List Rat→List (List Int)
 | []=>[]
 | q :: r=>Zs (dg q.num.natAbs) :: Zs (dg q.den) :: pcl r
abbrev rrow (q:Rat) (h:Value × Value):List Value:=[.bool (decide (q.num < 0)),h.1,h.2]
def rcs (qs:List Rat) (hs:List (Value × Value)):List Value:=(List.zipWith rrow qs hs).flatten
abbrev nS2:Value × Value:=(nS,nS)
theorem hpc_len (hs:List (Value × Value)):(hpc hs).length = 2 * hs.length:=by
 induction hs with
 | nil=>rfl
 | cons p r ih=>simp only [hpc,List.length_cons,ih];omega
theorem pcl_len (qs:List Rat):(pcl qs).length = 2 * qs.length:=by
 induction qs with
 | nil=>rfl
 | cons p r ih=>simp only [pcl,List.length_cons,ih];omega
theorem hpc_app (a b:List (Value × Value)):hpc (a ++ b) = hpc a ++ hpc b:=by
 induction a with
 | nil=>rfl
 | cons p r ih=>simp [hpc,ih]
theorem pcl_app (a b:List Rat):pcl (a ++ b) = pcl a ++ pcl b:=by
 induction a with
 | nil=>rfl
 | cons p r ih=>simp [pcl,ih]
theorem hpc_get:∀ (hs:List (Value × Value)) (i:Nat),i < hs.length→(hpc hs).getD (2 * i) nS = (hs.getD i nS2).1∧(hpc hs).getD (2 * i + 1) nS = (hs.getD i nS2).2
 | [],i,h=>absurd h (Nat.not_lt_zero _)
 | p :: r,0,_=>⟨rfl,rfl⟩
 | p :: r,i + 1,h=>by
  have:=hpc_get r i (by simpa using h)
  rw [show 2 * (i + 1) = 2 * i + 1 + 1 by omega]
  simpa [hpc,List.getD_eq_getElem?_getD] using this
theorem pcl_get:∀ (qs:List Rat) (i:Nat),i < qs.length→(pcl qs).getD (2 * i) [] = Zs (dg (qs.getD i 0).num.natAbs)∧(pcl qs).getD (2 * i + 1) [] = Zs (dg (qs.getD i 0).den)
 | [],i,h=>absurd h (Nat.not_lt_zero _)
 | p :: r,0,_=>⟨rfl,rfl⟩
 | p :: r,i + 1,h=>by
  have:=pcl_get r i (by simpa using h)
  rw [show 2 * (i + 1) = 2 * i + 1 + 1 by omega]
  simpa [pcl,List.getD_eq_getElem?_getD] using this
abbrev vfr (hs:List (Value × Value)) (qs:List Rat):Ch:=velg wU (hpc hs) (pcl qs)
abbrev ofr (hs:List (Value × Value)) (qs:List Rat):Ch:=owl T64 wU (hpc hs) (pcl qs)
theorem has_fr {F:List Ch} {hs:List (Value × Value)} {qs:List Rat} (h:Has F (vfr hs qs)) (hl:hs.length = qs.length) {i:Nat} (hi:i < qs.length):Has F (vw (hs.getD i nS2).1 (Us (dg (qs.getD i 0).num.natAbs)))∧Has F (vw (hs.getD i nS2).2 (Us (dg (qs.getD i 0).den))):=by
 have a1:=has_elg h (i:=2 * i) (by rw [pcl_len];omega)
 have a2:=has_elg h (i:=2 * i + 1) (by rw [pcl_len];omega)
 rw [(hpc_get hs i (by omega)).1,(pcl_get qs i hi).1,← Us_eq] at a1
 rw [(hpc_get hs i (by omega)).2,(pcl_get qs i hi).2,← Us_eq] at a2
 exact ⟨a1,a2⟩
theorem rcs_row {hs:List (Value × Value)} {qs:List Rat} (hl:hs.length = qs.length) {i:Nat} (hi:i < qs.length):((rcs qs hs).drop (3 * i)).take 3 = rrow (qs.getD i 0) (hs.getD i nS2):=by
 refine flat_row (sz:=3) (fun r hr=>?_) ?_
 ·obtain ⟨j,hj,rfl⟩:=List.mem_iff_getElem.1 hr
  rw [List.getElem_zipWith];rfl
 ·rw [List.getElem?_zipWith,List.getElem?_eq_getElem hi,List.getElem?_eq_getElem (show i < hs.length by omega)]
  simp [List.getD_eq_getElem?_getD,hi,show i < hs.length by omega]
theorem fr_one {F:List Ch} {hs:List (Value × Value)} {qs:List Rat} (h:Has F (vfr hs qs)) (hl:hs.length = qs.length) {i:Nat} (hi:i < qs.length) (w:World) (hw:Sat F w):(hs.getD i nS2).1.oneCell' = true∧(hs.getD i nS2).2.oneCell' = true:=by
 obtain ⟨a1,a2⟩:=has_fr h hl hi
 obtain ⟨_,_,e1,_⟩:=(a1.P w hw:Sl w _ _)
 obtain ⟨_,_,e2,_⟩:=(a2.P w hw:Sl w _ _)
 rw [e1,e2]
 exact ⟨rfl,rfl⟩
theorem foldl_take {α β:Type} [Inhabited α] (f:β→α→β) (b:β) {l:List α} {i:Nat} (h:i < l.length) (z:α):(l.take (i + 1)).foldl f b = f ((l.take i).foldl f b) (l.getD i z):=by
 rw [take_succ' h z,List.foldl_append];rfl
section
variable {P:Program} {E:Env P} {fr:Fr} {n:Sh}
theorem res_ac {fn:Func} {w:World} {a:Act} (ha:Holds n a fr) {t u:Nat} {ty ty2 T:TypeId} {dt d2:TypeDesc} {z:Value} {sz by_ b:Nat} {cs vs:List Value} {ad2:Addr} {v2:Value} (hr:fn.results = #[.cell t ty,.cell u ty2]) (ht:lk E.und ty = some dt) (hg:aggB dt = true) (hi:lk E.inf ty = some (z,sz,by_)) (h1:get fr t = some (ptr b))
  (hb:w.heap[b]? = some (.cells cs.toArray T (0,0))) (hv:cs.take sz = vs) (hl:vs.length = sz) (ht2:lk E.und ty2 = some d2) (hg2:aggB d2 = false) (h2:get fr u = some (.pointer (some ad2))) (hc2:w.cell? ad2 = some v2):(results fn a.tmps).run P w = .ok (.tuple #[.agg vs.toArray,v2]) w:=by
 obtain ⟨inf,g1,_,g2,_⟩:=E.info hi
 have h3:=run_loadCells_list (P:=P) w ⟨b,0,none⟩ vs (fun m u hm=>by
  rw [Addr.add_lit]
  refine blk_cell hb ?_
  rw [← hv,List.getElem?_take] at hm
  split at hm
  ·simpa using hm
  ·cases hm)
 rw [hl] at h3
 have e1:a.tmps[t]?.getD undef = ptr b:=by have:=ha.slot t _ h1;simpa using this
 have e2:a.tmps[u]?.getD undef = .pointer (some ad2):=by have:=ha.slot u _ h2;simpa using this
 simp only [results,hr]
 simp [e1,e2,asAddr,loadVar,aggB_t (w:=w) ht hg,sizeOf,typeInfo,g1,g2,h3,aggB_run (w:=w) ht2 hg2,hc2]
end
structure FoG where
 i:Nat
 vn:Value
 vd:Value
attribute [local irreducible] Fit pt own ro vw mpc lpt vels rels mow lrc dfr
attribute [local irreducible] lmp lme mit velg relg bnd owl
theorem foldD_tr (c7 c6:Nat):TrD Tryz.prog 119 [ptr c7,ptr c6] [lpt c7 [I 0] 27] [] fun _ D=>D = []:=by
 refine TrD.enter env _ Tryz.func119 (by kernel_rfl) rfl Tryz.ntmps119 rfl (by (repeat (first | exact has00 | refine has01 ?_));first | done | fail) fun w0=>?_
 repeat' first|(refine wo ?_;first|(refine ao ?_;first|refine oa ?_)|refine ldl ?_)|(refine gc ?_;first|refine cf ?_)|refine sq ?_|refine rg ?_|refine xc ?_|refine nl ?_|refine sk ?_
 exact e0 rfl
theorem Fold_tr (opf:Rat→Rat→Rat) (op:FuncId) (s0:Rat) (sn sd lv:Value) (qs:List Rat) (hs:List (Value × Value)) (hn:sn.oneCell' = true) (hd:sd.oneCell' = true) (hl:hs.length = qs.length)
  (hFB:∀ i,i < qs.length→FB (qs.getD i 0) 549755813888)
  (hop:∀ i,i < qs.length→∀ v1 v2,v1.oneCell' = true→v2.oneCell' = true→(hs.getD i nS2).1.oneCell' = true→(hs.getD i nS2).2.oneCell' = true→Tr Tryz.prog op [rv ((qs.take i).foldl opf s0) v1 v2,rv (qs.getD i 0) (hs.getD i nS2).1 (hs.getD i nS2).2]
   [vw v1 (Us (dg ((qs.take i).foldl opf s0).num.natAbs)),vw v2 (Us (dg ((qs.take i).foldl opf s0).den)),vw (hs.getD i nS2).1 (Us (dg (qs.getD i 0).num.natAbs)),vw (hs.getD i nS2).2 (Us (dg (qs.getD i 0).den))] [] (FQ (opf ((qs.take i).foldl opf s0) (qs.getD i 0)))) :
  Tr Tryz.prog 69 [rv s0 sn sd,.func (.func op) #[] #[],lv] [vwf lv qs.length (rcs qs hs),vfr hs qs] [own T64 sn (Us (dg s0.num.natAbs)),own T64 sd (Us (dg s0.den))] (FQ2 (qs.foldl opf s0) 0):=by
 refine Tr.enterD env _ Tryz.func69 (by kernel_rfl) rfl Tryz.ntmps69 rfl (by (repeat (first | exact has00 | refine has01 ?_));first | done | fail) fun w0=>?_
 refine TC.fact (fun w hw=>has_len (v:=lv) (N:=qs.length) (xs:=rcs qs hs) hasA w hw) fun hml=>?_
 repeat' first|refine bx fun c=>?_|refine al fun c=>?_|refine df ?_|refine lnw (N:=qs.length) (xs:=rcs qs hs) ?_|(refine wo ?_;first|refine oa ?_)|refine sq ?_|refine rg ?_|refine xc ?_|refine nl ?_|refine bk ?_
 rename_i c3 c6
 refine TC.loop (ι:=Nat) (fun i=>[(15,I i)]) (fun i=>[pt c [I 0] 27]) (fun i=>i ≤ qs.length) (fun i=>qs.length - i) 0 [1,2,3,6,7,12,13,14] (Nat.zero_le _) ?_
 rintro i hi
 by_cases hlt:i < qs.length
 ·refine TC.fact (fun w hw=>fr_one (hs:=hs) (qs:=qs) hasA hl hlt w hw) fun ho=>?_
  obtain ⟨ho1,ho2⟩:=ho
  have hrow:=rcs_row hl hlt
  have hK:=FCheck_tr (qs.getD i 0) (hs.getD i nS2).1 (hs.getD i nS2).2 ho1 ho2 (hFB i hlt)
  repeat' first|(refine gca ?_;first|(refine ca hK ?_ (hp:=has1 (has_fr hasA hl hlt).1 (has1 (has_fr hasA hl hlt).2 has0));rintro _ _ ⟨rfl,rfl⟩))|refine ixws (i:=(i:Int)) (N:=qs.length) (xs:=rcs qs hs) ?_|refine ldaw (N:=qs.length) (xs:=rcs qs hs) (m:=3 * i) hrow ?_|refine al fun c9=>?_|refine srz ?_|refine lda ?_|(refine wo ?_;first|(refine ao ?_;first|refine aw ?_|refine oa ?_)|refine oa ?_|refine ld ?_|refine sr ?_)|(refine gc ?_;first|refine cf ?_|(refine ci (fun hB=>?_) (fun hB=>?_) <;> try (exfalso;omega)))|refine sq ?_|refine rg ?_|refine xc ?_|refine nl ?_|refine sk ?_|refine bk ?_|refine xb ?_
  exact lp (i + 1) hlt
 obtain rfl:i = qs.length:=by omega
 repeat' first|refine lda ?_|refine srz ?_|refine lnw (N:=qs.length) (xs:=rcs qs hs) ?_|(refine wo ?_;first|(refine ao ?_;first|refine oa ?_)|refine oa ?_)|(refine gc ?_;first|(refine ci (fun hB=>?_) (fun hB=>?_) <;> try (exfalso;omega)))|refine sq ?_|refine rg ?_|refine xc ?_|refine nl ?_|refine bk ?_|refine xe ?_
 refine TC.loop (ι:=FoG) (fun g=>[(27,I g.i)]) (fun g=>[pt c6 (rrow ((qs.take g.i).foldl opf s0) (g.vn,g.vd)) TRt,own T64 g.vn (Us (dg ((qs.take g.i).foldl opf s0).num.natAbs)),own T64 g.vd (Us (dg ((qs.take g.i).foldl opf s0).den))]) (fun g=>g.i ≤ qs.length∧g.vn.oneCell' = true∧g.vd.oneCell' = true) (fun g=>qs.length - g.i) ⟨0,sn,sd⟩ [1,2,6,7,25,26] ⟨Nat.zero_le _,hn,hd⟩ ?_
 rintro ⟨i,vn,vd⟩ ⟨hi,hvn,hvd⟩
 dsimp only at hi hvn hvd ⊢
 by_cases hlt:i < qs.length
 ·refine TC.fact (fun w hw=>fr_one (hs:=hs) (qs:=qs) hasA hl hlt w hw) fun ho=>?_
  obtain ⟨ho1,ho2⟩:=ho
  have hrow:=rcs_row hl hlt
  have hO:=hop i hlt vn vd hvn hvd ho1 ho2
  have hst:=foldl_take opf s0 hlt 0
  obtain ⟨p,hp⟩ : ∃ p,p = (qs.take i).foldl opf s0:=⟨_,rfl⟩
  obtain ⟨p2,hp2⟩ : ∃ p,p = (qs.take (i + 1)).foldl opf s0:=⟨_,rfl⟩
  rw [← hp,← hp2] at hst
  rw [← hp] at hO ⊢
  rw [← hst] at hO
  unfold FQ at hO
  repeat' first|refine ixws (i:=(i:Int)) (N:=qs.length) (xs:=rcs qs hs) ?_|refine ldaw (N:=qs.length) (xs:=rcs qs hs) (m:=3 * i) hrow ?_|refine al fun c9=>?_|refine srz ?_ (hj:=Nat.le_of_ble_eq_true rfl)|refine lda ?_|(refine cav (cap:=#[]) (vs:=[rv p vn vd,rv (qs.getD i 0) (hs.getD i nS2).1 (hs.getD i nS2).2]) hO ?_ (hp:=has1 hasA (has1 hasA (has1 (has_fr hasA hl hlt).1 (has1 (has_fr hasA hl hlt).2 has0))));rintro _ _ ⟨vn2,vd2,rfl,hvn2,hvd2,rfl⟩)|(refine wo ?_;first|(refine ao ?_;first|refine aw ?_|refine oa ?_)|refine oa ?_)|(refine gc ?_;first|(refine ci (fun hB=>?_) (fun hB=>?_) <;> try (exfalso;omega)))|refine sq ?_|refine rg ?_|refine xc ?_|refine nl ?_|refine sk ?_|refine bk ?_|refine xb ?_
  exact lp ⟨i + 1,vn2,vd2⟩ ⟨hlt,hvn2,hvd2⟩ (hf:=by dsimp only;rw [← hp2];exact fitA)
 ·obtain rfl:i = qs.length:=by omega
  rw [List.take_length]
  generalize qs.foldl opf s0 = p at *
  repeat' first|refine lda ?_|refine srz ?_ (hj:=Nat.le_of_ble_eq_true rfl)|(refine wo ?_;first|(refine ao ?_;first|refine oa ?_)|refine sr ?_)|(refine gc ?_;first|(refine ci (fun hB=>?_) (fun hB=>?_) <;> try (exfalso;omega)))|refine sq ?_|refine rg ?_|refine xc ?_|refine nl ?_|refine xe ?_|refine rt ?_
  refine rD (foldD_tr c c6) ?_ (vs:=[]) (cap:=#[ptr c,ptr c6])
  rintro _ _ rfl
  refine rDn (v:=tup2 (rv p vn vd) (I 0)) ⟨vn,vd,rfl,hvn,hvd,rfl⟩ (fun w hw a ha=>?_)
  exact res_ac (E:=env) ha rfl rfl rfl rfl rfl (pt_at memA hw) rfl rfl rfl rfl rfl (ptcell (cs:=[I 0]) (T:=27) hw memA rfl)
end Go.Art
namespace Go.Art
open Go Go.Proofs Go.RowKit
theorem has_velg_nil {g:Int→Value} {F:List Ch}:Has F (velg g [] []):=⟨fun _ _=>⟨rfl,fun i hi=>by simp at hi⟩,fun _ h=>h,fun _ h=>h,fun b hb=>by
 rcases hb with hb | hb | ⟨i,hi,_⟩
 ·exact hb.elim
 ·exact hb.elim
 ·simp at hi⟩
theorem has_velg_cons {g:Int→Value} {F:List Ch} {v:Value} {l:List Int} {hs:List Value} {ls:List (List Int)} (h:Has F (vw v (l.map g))) (k:Has F (velg g hs ls)):Has F (velg g (v :: hs) (l :: ls)):=by
 have hb:∀ b,(velg g (v :: hs) (l :: ls)).ft b→(vw v (l.map g)).ft b∨(velg g hs ls).ft b:=fun b hb=>by
  rcases hb with hb | hb | ⟨i,hi,h1,h2⟩
  ·exact hb.elim
  ·exact hb.elim
  ·cases i with
   | zero=>exact .inl (.inr (.inr ⟨h1,h2⟩))
   | succ i=>exact .inr (.inr (.inr ⟨i,by simpa using hi,h1,h2⟩))
 refine ⟨fun w hw=>?_,fun _ h=>h,fun _ h=>h,fun b hx=>?_⟩
 ·obtain ⟨k1,k2⟩:=(k.P w hw:elgP g hs ls w)
  refine ⟨by simp [k1],fun i hi=>?_⟩
  cases i with
  | zero=>exact h.P w hw
  | succ i=>exact k2 i (by simpa using hi)
 ·rcases hb b hx with h1 | h1
  ·exact h.ft b h1
  ·exact k.ft b h1
theorem has_vfr_nil {F:List Ch}:Has F (vfr [] []):=has_velg_nil
theorem has_vfr_cons {F:List Ch} {v1 v2:Value} {q:Rat} {hs:List (Value × Value)} {qs:List Rat} (h1:Has F (vw v1 (Us (dg q.num.natAbs)))) (h2:Has F (vw v2 (Us (dg q.den)))) (k:Has F (vfr hs qs)):Has F (vfr ((v1,v2) :: hs) (q :: qs)):=by
 rw [Us_eq] at h1 h2
 exact has_velg_cons h1 (has_velg_cons h2 k)
theorem FB_mk {a D B:Nat} (hD:D ≠ 0) (ha:(dg a).length ≤ B) (hd:(dg D).length ≤ B):FB (mkRat (a:Int) D) B:=by
 refine ⟨?_,?_⟩
 ·rw [mk_abs _ hD,Int.natAbs_natCast]
  exact Nat.le_trans (dg_mono (Nat.div_le_self _ _)) ha
 ·rw [mk_den _ hD]
  exact Nat.le_trans (dg_mono (Nat.div_le_self _ _)) hd
theorem FB_mk1 {a D:Nat} (hD:D ≠ 0) (ha:a < 18446744073709551616) (hd:D < 18446744073709551616):FB (mkRat (a:Int) D) 1:=FB_mk hD (dg_len1 ha) (dg_len1 hd)
attribute [local irreducible] Fit pt own ro vw mpc lpt vels rels mow lrc dfr
attribute [local irreducible] lmp lme mit velg relg bnd owl
theorem FAdd_tr (lv:Value) (qs:List Rat) (hs:List (Value × Value)) (hl:hs.length = qs.length) (hFB:∀ i,i < qs.length→FB (qs.getD i 0) 8589934592) (hP:∀ i,i < qs.length→FB ((qs.take i).foldl (· + ·) 0) 8589934592) :
  Tr Tryz.prog 32 [lv] [vwf lv qs.length (rcs qs hs),vfr hs qs] [] (FQ2 (qs.foldl (· + ·) 0) 0):=by
 have hF:=fun o ho=>Fold_tr (· + ·) 71 0 nS o lv qs hs rfl ho hl (fun i hi=>(hFB i hi).le (by decide)) (fun i hi v1 v2 h1 h2 h3 h4=>FSum_tr _ _ v1 v2 _ _ h1 h2 h3 h4 (hP i hi) (hFB i hi))
 have e1:dg (0:Rat).num.natAbs = []:=by rw [show (0:Rat).num.natAbs = 0 from rfl,dg_zero]
 have e2:dg (0:Rat).den = [1]:=by rw [show (0:Rat).den = 1 from rfl,dg_pos (by decide)];rw [show 1 / 18446744073709551616 = 0 from rfl,dg_zero]
 rw [e1,e2] at hF
 unfold FQ2 at hF ⊢
 generalize qs.foldl (· + ·) (0:Rat) = p at *
 refine Tr.enter env _ Tryz.func32 (by kernel_rfl) rfl Tryz.ntmps32 rfl (by repeat (first | exact has00 | refine has01 ?_)) fun w0=>?_
 refine TC.im (own_nil T64 _) ?_
 repeat' first|(refine gca ?_;first|(refine ca one_tr ?_;rintro o _ ⟨ho,rfl⟩)|(refine ca (hF o ho) ?_;rintro _ _ ⟨vn,vd,rfl,hvn,hvd,rfl⟩))|refine al fun c=>?_|refine bdm ?_|refine srz ?_|(refine wo ?_;first|refine oa ?_)|refine sq ?_|refine rg ?_|refine xc ?_|refine nl ?_|refine rt ?_
 exact rca (cs:=[.bool (decide (p.num < 0)),vn,vd]) (vs:=[.bool (decide (p.num < 0)),vn,vd]) (T:=TRt) ⟨vn,vd,rfl,hvn,hvd,rfl⟩
theorem FAdd0_tr:Tr Tryz.prog 32 [nS] [] [] (FQ2 0 0):=by
 have h:=FAdd_tr nS [] [] rfl (fun i hi=>absurd hi (Nat.not_lt_zero _)) (fun i hi=>absurd hi (Nat.not_lt_zero _))
 refine ⟨fun w hw=>h.run w ?_,has00⟩
 refine Sat.app.2 ⟨?_,hw,fun a ha c hc=>nomatch hc⟩
 have g1:Has [] (vwf nS 0 []):=⟨fun w _=>⟨none,0,rfl,Nat.le_refl _,by unfold maxLen;omega,fun h=>absurd h (Nat.lt_irrefl _),fun i u h=>by simp at h⟩,fun _ h=>h,fun _ h=>h,fun b hb=>by rcases hb with hb | hb | hb;exact hb.elim;exact hb.elim;exact absurd rfl hb.1⟩
 have:=lend (pre:=[vwf nS 0 [],vfr [] []]) (A:=[]) (F:=[]) (w:=w) (Sat.nil w) (has1 g1 (has1 has_vfr_nil has0))
 rw [List.append_nil] at this
 exact this
end Go.Art
namespace Go.Art
open Go Go.Proofs Go.RowKit
theorem rmul_den (q r:Rat):(q * r).den = (q.den / Nat.gcd r.num.natAbs q.den) * (r.den / Nat.gcd q.num.natAbs r.den):=by
 show (Rat.mul q r).den = _
 unfold Rat.mul
 rfl
theorem rmul_num (q r:Rat):(q * r).num = (q.num / (Nat.gcd q.num.natAbs r.den:Nat)) * (r.num / (Nat.gcd r.num.natAbs q.den:Nat)):=by
 show (Rat.mul q r).num = _
 unfold Rat.mul
 simp only [Int.divExact_eq_ediv]
theorem rmul_abs (q r:Rat):(q * r).num.natAbs = (q.num.natAbs / Nat.gcd q.num.natAbs r.den) * (r.num.natAbs / Nat.gcd r.num.natAbs q.den):=by
 rw [rmul_num,Int.natAbs_mul,natAbs_div _ _ (Int.ofNat_dvd_left.2 (Nat.gcd_dvd_left _ _)),natAbs_div _ _ (Int.ofNat_dvd_left.2 (Nat.gcd_dvd_left _ _))]
theorem div_sgn {z:Int} {g:Nat} (h:g ∣ z.natAbs) (hg:g ≠ 0):decide (z / (g:Int) < 0) = decide (z < 0):=by
 refine decide_eq_decide.2 ⟨fun k=>?_,fun k=>?_⟩
 ·rcases Int.lt_or_le z 0 with h1 | h1
  ·exact h1
  ·have:=Int.ediv_nonneg h1 (Int.natCast_nonneg g);omega
 ·exact Int.ediv_neg_of_neg_of_pos k (by omega)
theorem rmul_sgn (q r:Rat):decide ((q * r).num < 0) = (!(decide (q.num < 0) == decide (r.num < 0)) && decide (0 < (q.num.natAbs / Nat.gcd q.num.natAbs r.den) * (r.num.natAbs / Nat.gcd r.num.natAbs q.den))):=by
 have g1:Nat.gcd q.num.natAbs r.den ≠ 0:=Nat.ne_of_gt (Nat.gcd_pos_of_pos_right _ (Nat.pos_of_ne_zero r.den_nz))
 have g2:Nat.gcd r.num.natAbs q.den ≠ 0:=Nat.ne_of_gt (Nat.gcd_pos_of_pos_right _ (Nat.pos_of_ne_zero q.den_nz))
 have h1:=div_sgn (z:=q.num) (Nat.gcd_dvd_left q.num.natAbs r.den) g1
 have h2:=div_sgn (z:=r.num) (Nat.gcd_dvd_left r.num.natAbs q.den) g2
 have h3:=natAbs_div q.num (Nat.gcd q.num.natAbs r.den) (Int.ofNat_dvd_left.2 (Nat.gcd_dvd_left _ _))
 have h4:=natAbs_div r.num (Nat.gcd r.num.natAbs q.den) (Int.ofNat_dvd_left.2 (Nat.gcd_dvd_left _ _))
 rw [rmul_num,← h1,← h2,← h3,← h4,← sg_mul,sg_neg]
attribute [local irreducible] Fit pt own ro vw mpc lpt vels rels mow lrc dfr
attribute [local irreducible] lmp lme mit velg relg bnd owl
theorem FProd_tr (q r:Rat) (v1 v2 v3 v4:Value) (h1:v1.oneCell' = true) (h2:v2.oneCell' = true) (h3:v3.oneCell' = true) (h4:v4.oneCell' = true) (hq:FB q 8589934592) (hr:FB r 8589934592) :
  Tr Tryz.prog 140 [rv q v1 v2,rv r v3 v4] [vw v1 (Us (dg q.num.natAbs)),vw v2 (Us (dg q.den)),vw v3 (Us (dg r.num.natAbs)),vw v4 (Us (dg r.den))] [] (FQ (q * r)):=by
 have hG1:=NGcd_tr v1 v4 (dg q.num.natAbs) (dg r.den) (Dg_dg _) (Dg_dg _) (by have:=hq.1;omega) (by have:=hr.2;omega)
 have hG2:=NGcd_tr v3 v2 (dg r.num.natAbs) (dg q.den) (Dg_dg _) (Dg_dg _) (by have:=hr.1;omega) (by have:=hq.2;omega)
 rw [nv_dg,nv_dg] at hG1 hG2
 have e1:=rmul_abs q r
 have e2:=rmul_den q r
 have e3:=rmul_sgn q r
 obtain ⟨g,hg⟩ : ∃ g,g = Nat.gcd q.num.natAbs r.den:=⟨_,rfl⟩
 obtain ⟨h,hh⟩ : ∃ h,h = Nat.gcd r.num.natAbs q.den:=⟨_,rfl⟩
 have g0:g ≠ 0:=by rw [hg];exact Nat.ne_of_gt (Nat.gcd_pos_of_pos_right _ (Nat.pos_of_ne_zero r.den_nz))
 have h0:h ≠ 0:=by rw [hh];exact Nat.ne_of_gt (Nat.gcd_pos_of_pos_right _ (Nat.pos_of_ne_zero q.den_nz))
 have gl:(dg g).length ≤ 8589934592:=by rw [hg];exact Nat.le_trans (dg_mono (Nat.gcd_le_right _ (Nat.pos_of_ne_zero r.den_nz))) hr.2
 have hl:(dg h).length ≤ 8589934592:=by rw [hh];exact Nat.le_trans (dg_mono (Nat.gcd_le_right _ (Nat.pos_of_ne_zero q.den_nz))) hq.2
 rw [← hg] at hG1 e1 e2 e3
 rw [← hh] at hG2 e1 e2 e3
 have q1:=hq.1
 have q2:=hq.2
 have r1':=hr.1
 have r2':=hr.2
 have hB1:=fun o=>by_tr v1 o (dg q.num.natAbs) (dg g) (Dg_dg _) (Dg_dg _) (by omega) (by omega) (by rw [nv_dg];exact g0)
 have hB2:=fun o=>by_tr v3 o (dg r.num.natAbs) (dg h) (Dg_dg _) (Dg_dg _) (by omega) (by omega) (by rw [nv_dg];exact h0)
 have hB3:=fun o=>by_tr v2 o (dg q.den) (dg h) (Dg_dg _) (Dg_dg _) (by omega) (by omega) (by rw [nv_dg];exact h0)
 have hB4:=fun o=>by_tr v4 o (dg r.den) (dg g) (Dg_dg _) (Dg_dg _) (by omega) (by omega) (by rw [nv_dg];exact g0)
 simp only [nv_dg] at hB1 hB2 hB3 hB4
 have m1:(dg (q.num.natAbs / g)).length ≤ 8589934592:=Nat.le_trans (dg_mono (Nat.div_le_self _ _)) q1
 have m2:(dg (r.num.natAbs / h)).length ≤ 8589934592:=Nat.le_trans (dg_mono (Nat.div_le_self _ _)) r1'
 have m3:(dg (q.den / h)).length ≤ 8589934592:=Nat.le_trans (dg_mono (Nat.div_le_self _ _)) q2
 have m4:(dg (r.den / g)).length ≤ 8589934592:=Nat.le_trans (dg_mono (Nat.div_le_self _ _)) r2'
 have hM1:=fun x y=>NMul_tr x y (dg (q.num.natAbs / g)) (dg (r.num.natAbs / h)) (Dg_dg _) (Dg_dg _) (by omega) (by omega)
 have hM2:=fun x y=>NMul_tr x y (dg (q.den / h)) (dg (r.den / g)) (Dg_dg _) (Dg_dg _) (by omega) (by omega)
 simp only [nv_dg] at hM1 hM2
 have ml:=dg_mul_len m1 m2
 have hI:=fun b o=>IMake_tr b o (dg (q.num.natAbs / g * (r.num.natAbs / h))) (Dg_dg _) (by omega)
 rw [← e1] at hM1 hI e3
 rw [← e2] at hM2
 simp only [nv_dg] at hI
 unfold IR at hI
 simp only [sg_abs,sg_neg] at hI
 obtain ⟨s,hs⟩ : ∃ s,s = q * r:=⟨_,rfl⟩
 rw [← hs] at hM1 hM2 hI e3 ⊢
 clear e1 e2 hs ml
 show Tr _ _ [.agg #[.bool (decide (q.num < 0)),v1,v2],.agg #[.bool (decide (r.num < 0)),v3,v4]] _ _ _
 have hI2:=hI (!(decide (q.num < 0) == decide (r.num < 0)))
 rw [← e3] at hI2
 clear hI e3
 clear m1 m2 m3 m4 gl hl q1 q2 r1' r2' hq hr
 generalize dg (q.num.natAbs / g) = x1 at *
 generalize dg (r.num.natAbs / h) = x2 at *
 generalize dg (q.den / h) = x3 at *
 generalize dg (r.den / g) = x4 at *
 clear hg hh g0 h0
 generalize dg q.num.natAbs = lq at *
 generalize dg q.den = lqd at *
 generalize dg r.num.natAbs = lr at *
 generalize dg r.den = lrd at *
 generalize decide (q.num < 0) = b1 at *
 generalize decide (r.num < 0) = b2 at *
 refine Tr.enter env _ Tryz.func140 (by kernel_rfl) rfl Tryz.ntmps140 rfl (by repeat (first | exact has00 | refine has01 ?_)) fun w0=>?_
 repeat' first|refine bx fun q=>?_|refine al fun c=>?_|refine sq ?_|refine rg ?_|refine xc ?_|refine nl ?_
 rename_i q1
 refine rs (fun w=>w.heap[q1]? = some (.cells [.bool b1,v1,v2].toArray TRt (0,0))∧w.heap[q]? = some (.cells [.bool b2,v3,v4].toArray TRt (0,0))) ?_ (fun w hw=>⟨pt_at memA hw,pt_at memA hw⟩)
 refine tka 0 ?_
 refine tka 1 ?_
 refine tkl 2 (cs:=[.bool b1,v1,v2]) (fun w h=>h.1) ?_
 refine tka 3 ?_
 refine tkl 4 (cs:=[.bool b2,v3,v4]) (fun w h=>h.2) ?_
 refine tka 6 ?_
 refine tka 7 ?_
 refine tkl 8 (cs:=[.bool b2,v3,v4]) (fun w h=>h.2) ?_
 refine tka 9 ?_
 refine tkl 10 (cs:=[.bool b1,v1,v2]) (fun w h=>h.1) ?_
 refine t1 5 ?_
 refine ca hG1 ?_
 rintro o1 _ ⟨ho1,rfl⟩
 refine nl ?_
 refine te (fun w hw=>⟨pt_at memA hw,pt_at memA hw⟩) ?_
 refine t1 11 ?_
 refine ca hG2 ?_
 rintro o2 _ ⟨ho2,rfl⟩
 refine nl ?_
 refine te (fun w hw=>⟨pt_at memA hw,pt_at memA hw⟩) ?_
 refine tka 12 ?_
 refine tka 13 ?_
 refine t0 ?_
 repeat' first|refine sq ?_|refine xc ?_
 refine cutY (ι:=Nat × Value) (fun u=>u.2.oneCell' = true) (fun u=>[(2,ptr q1),(3,ptr q),(4,ptr c),(5,o1),(6,o2),(7,ptr u.1)]) (fun u=>[pt q1 [.bool b1,v1,v2] TRt,pt q [.bool b2,v3,v4] TRt,pt c [.bool false,nS,nS] TRt,pt u.1 [.bool (decide (s.num < 0)),u.2] TIt,own T64 u.2 (Us (dg s.num.natAbs)),vw v2 (Us lqd),vw v4 (Us lrd),own T64 o1 (Us (dg g)),own T64 o2 (Us (dg h))]) ?_ ?_
 ·rintro ⟨c2,o3⟩ ho3
  dsimp only at ho3 ⊢
  repeat' first|refine sq ?_
  refine rs (fun w=>w.heap[q1]? = some (.cells [.bool b1,v1,v2].toArray TRt (0,0))∧w.heap[q]? = some (.cells [.bool b2,v3,v4].toArray TRt (0,0))∧w.heap[c2]? = some (.cells [.bool (decide (s.num < 0)),o3].toArray TIt (0,0))) ?_ (fun w hw=>⟨pt_at memA hw,pt_at memA hw,pt_at memA hw⟩)
  refine tk 0 (v:=.agg #[.bool (decide (s.num < 0)),o3]) (fun w h=>R_loadA (E:=env) (vs:=[.bool (decide (s.num < 0)),o3]) rfl rfl rfl rfl h.2.2 rfl rfl) ?_
  refine tka 1 ?_
  refine tkl 2 (cs:=[.bool b1,v1,v2]) (fun w h=>h.1) ?_
  refine tka 3 ?_
  refine tka 5 ?_
  refine tkl 6 (cs:=[.bool b2,v3,v4]) (fun w h=>h.2.1) ?_
  refine tka 7 ?_
  refine t1 4 ?_
  refine ca (hB3 o2) ?_
  rintro y4 _ ⟨hy4,rfl⟩
  refine nl ?_
  refine te (fun w hw=>⟨pt_at memA hw,pt_at memA hw,pt_at memA hw⟩) ?_
  refine t1 8 ?_
  refine ca (hB4 o1) ?_
  rintro y5 _ ⟨hy5,rfl⟩
  refine nl ?_
  refine te (fun w hw=>⟨pt_at memA hw,pt_at memA hw,pt_at memA hw⟩) ?_
  refine t1 9 ?_
  refine ca (hM2 y4 y5) ?_
  rintro y6 _ ⟨hy6,rfl⟩
  refine nl ?_
  refine te (fun w hw=>⟨pt_at memA hw,pt_at memA hw,pt_at memA hw⟩) ?_
  refine t1 10 ?_
  refine bdm ?_
  refine nl ?_
  refine te (fun w hw=>⟨pt_at memA hw,pt_at memA hw,pt_at memA hw⟩) ?_
  refine t1 11 ?_
  refine srz ?_
  refine nl ?_
  refine te (fun w hw=>⟨pt_at memA hw,pt_at memA hw,pt_at memA hw⟩) ?_
  refine t0 ?_
  repeat' first|refine xc ?_|refine rt ?_
  exact rca1 (cs:=[.bool (decide (s.num < 0)),o3,y6]) (vs:=[.bool (decide (s.num < 0)),o3,y6]) (T:=TRt) ⟨o3,y6,rfl,ho3,hy6,rfl⟩
 ·intro b' kb
  refine rs (fun w=>w.heap[q1]? = some (.cells [.bool b1,v1,v2].toArray TRt (0,0))∧w.heap[q]? = some (.cells [.bool b2,v3,v4].toArray TRt (0,0))) ?_ (fun w hw=>⟨pt_at memA hw,pt_at memA hw⟩)
  refine tka 0 ?_
  refine tka 1 ?_
  refine tkl 2 (cs:=[.bool b1,v1,v2]) (fun w h=>h.1) ?_
  refine tka 3 ?_
  refine tka 4 ?_
  refine tkl 5 (cs:=[.bool b2,v3,v4]) (fun w h=>h.2) ?_
  refine tk 6 (v:=.bool (!(b1 == b2))) (fun _ _=>R_bne (E:=env) (b1:=b1) (b2:=b2) rfl rfl rfl) ?_
  refine tka 7 ?_
  refine tka 8 ?_
  refine tkl 9 (cs:=[.bool b1,v1,v2]) (fun w h=>h.1) ?_
  refine tka 10 ?_
  refine tka 12 ?_
  refine tka 13 ?_
  refine tkl 14 (cs:=[.bool b2,v3,v4]) (fun w h=>h.2) ?_
  refine tka 15 ?_
  refine t2 11 19 ?_ ?_
  ·refine ca (hB1 o1) ?_
   rintro y1 _ ⟨hy1,rfl⟩
   refine nl ?_
   refine te (fun w hw=>⟨pt_at memA hw,pt_at memA hw⟩) ?_
   refine t2 16 19 ?_ ?_
   ·refine ca (hB2 o2) ?_
    rintro y2 _ ⟨hy2,rfl⟩
    refine nl ?_
    refine te (fun w hw=>⟨pt_at memA hw,pt_at memA hw⟩) ?_
    refine t2 17 19 ?_ ?_
    ·refine ca (hM1 y1 y2) ?_
     rintro y3 _ ⟨hy3,rfl⟩
     refine nl ?_
     refine te (fun w hw=>⟨pt_at memA hw,pt_at memA hw⟩) ?_
     refine t2 18 19 ?_ ?_
     ·refine ca (hI2 y3) ?_
      rintro _ _ ⟨o3,rfl,ho3,rfl⟩
      refine nl ?_
      refine te (fun w hw=>⟨pt_at memA hw,pt_at memA hw⟩) ?_
      refine t1 19 ?_
      refine al fun c2=>?_
      refine nl ?_
      refine te (fun w hw=>⟨pt_at memA hw,pt_at memA hw⟩) ?_
      refine t1 20 ?_
      refine srz ?_
      refine nl ?_
      refine te (fun w hw=>⟨pt_at memA hw,pt_at memA hw⟩) ?_
      refine t0 ?_
      repeat' first|refine xc ?_
      exact kb (c2,o3) ho3 _ _ (by (repeat (refine Sub.cons rfl (by first | rfl | go_num) ?_));exact Sub.nil) fitA
     ·refine al fun c2=>?_
      refine nl ?_
      refine te (fun w hw=>⟨pt_at memA hw,pt_at memA hw⟩) ?_
      refine t1 18 ?_
      refine ca (hI2 y3) ?_
      rintro _ _ ⟨o3,rfl,ho3,rfl⟩
      refine nl ?_
      refine te (fun w hw=>⟨pt_at memA hw,pt_at memA hw⟩) ?_
      refine t1 20 ?_
      refine srz ?_
      refine nl ?_
      refine te (fun w hw=>⟨pt_at memA hw,pt_at memA hw⟩) ?_
      refine t0 ?_
      repeat' first|refine xc ?_
      exact kb (c2,o3) ho3 _ _ (by (repeat (refine Sub.cons rfl (by first | rfl | go_num) ?_));exact Sub.nil) fitA
    ·refine al fun c2=>?_
     refine nl ?_
     refine te (fun w hw=>⟨pt_at memA hw,pt_at memA hw⟩) ?_
     refine t1 17 ?_
     refine ca (hM1 y1 y2) ?_
     rintro y3 _ ⟨hy3,rfl⟩
     refine nl ?_
     refine te (fun w hw=>⟨pt_at memA hw,pt_at memA hw⟩) ?_
     refine t1 18 ?_
     refine ca (hI2 y3) ?_
     rintro _ _ ⟨o3,rfl,ho3,rfl⟩
     refine nl ?_
     refine te (fun w hw=>⟨pt_at memA hw,pt_at memA hw⟩) ?_
     refine t1 20 ?_
     refine srz ?_
     refine nl ?_
     refine te (fun w hw=>⟨pt_at memA hw,pt_at memA hw⟩) ?_
     refine t0 ?_
     repeat' first|refine xc ?_
     exact kb (c2,o3) ho3 _ _ (by (repeat (refine Sub.cons rfl (by first | rfl | go_num) ?_));exact Sub.nil) fitA
   ·refine al fun c2=>?_
    refine nl ?_
    refine te (fun w hw=>⟨pt_at memA hw,pt_at memA hw⟩) ?_
    refine t1 16 ?_
    refine ca (hB2 o2) ?_
    rintro y2 _ ⟨hy2,rfl⟩
    refine nl ?_
    refine te (fun w hw=>⟨pt_at memA hw,pt_at memA hw⟩) ?_
    refine t1 17 ?_
    refine ca (hM1 y1 y2) ?_
    rintro y3 _ ⟨hy3,rfl⟩
    refine nl ?_
    refine te (fun w hw=>⟨pt_at memA hw,pt_at memA hw⟩) ?_
    refine t1 18 ?_
    refine ca (hI2 y3) ?_
    rintro _ _ ⟨o3,rfl,ho3,rfl⟩
    refine nl ?_
    refine te (fun w hw=>⟨pt_at memA hw,pt_at memA hw⟩) ?_
    refine t1 20 ?_
    refine srz ?_
    refine nl ?_
    refine te (fun w hw=>⟨pt_at memA hw,pt_at memA hw⟩) ?_
    refine t0 ?_
    repeat' first|refine xc ?_
    exact kb (c2,o3) ho3 _ _ (by (repeat (refine Sub.cons rfl (by first | rfl | go_num) ?_));exact Sub.nil) fitA
  ·refine al fun c2=>?_
   refine nl ?_
   refine te (fun w hw=>⟨pt_at memA hw,pt_at memA hw⟩) ?_
   refine t1 11 ?_
   refine ca (hB1 o1) ?_
   rintro y1 _ ⟨hy1,rfl⟩
   refine nl ?_
   refine te (fun w hw=>⟨pt_at memA hw,pt_at memA hw⟩) ?_
   refine t1 16 ?_
   refine ca (hB2 o2) ?_
   rintro y2 _ ⟨hy2,rfl⟩
   refine nl ?_
   refine te (fun w hw=>⟨pt_at memA hw,pt_at memA hw⟩) ?_
   refine t1 17 ?_
   refine ca (hM1 y1 y2) ?_
   rintro y3 _ ⟨hy3,rfl⟩
   refine nl ?_
   refine te (fun w hw=>⟨pt_at memA hw,pt_at memA hw⟩) ?_
   refine t1 18 ?_
   refine ca (hI2 y3) ?_
   rintro _ _ ⟨o3,rfl,ho3,rfl⟩
   refine nl ?_
   refine te (fun w hw=>⟨pt_at memA hw,pt_at memA hw⟩) ?_
   refine t1 20 ?_
   refine srz ?_
   refine nl ?_
   refine te (fun w hw=>⟨pt_at memA hw,pt_at memA hw⟩) ?_
   refine t0 ?_
   repeat' first|refine xc ?_
   exact kb (c2,o3) ho3 _ _ (by (repeat (refine Sub.cons rfl (by first | rfl | go_num) ?_));exact Sub.nil) fitA
theorem FMul_tr (lv:Value) (qs:List Rat) (hs:List (Value × Value)) (hl:hs.length = qs.length) (hFB:∀ i,i < qs.length→FB (qs.getD i 0) 8589934592) (hP:∀ i,i < qs.length→FB ((qs.take i).foldl (· * ·) 1) 8589934592) :
  Tr Tryz.prog 79 [lv] [vwf lv qs.length (rcs qs hs),vfr hs qs] [] (FQ2 (qs.foldl (· * ·) 1) 0):=by
 have hF:=fun o o2 ho ho2=>Fold_tr (· * ·) 140 1 o o2 lv qs hs ho ho2 hl (fun i hi=>(hFB i hi).le (by decide)) (fun i hi v1 v2 h1 h2 h3 h4=>FProd_tr _ _ v1 v2 _ _ h1 h2 h3 h4 (hP i hi) (hFB i hi))
 have e1:dg (1:Rat).num.natAbs = [1]:=by rw [show (1:Rat).num.natAbs = 1 from rfl,dg_pos (by decide)];rw [show 1 / 18446744073709551616 = 0 from rfl,dg_zero]
 have e2:dg (1:Rat).den = [1]:=by rw [show (1:Rat).den = 1 from rfl,dg_pos (by decide)];rw [show 1 / 18446744073709551616 = 0 from rfl,dg_zero]
 rw [e1,e2] at hF
 unfold FQ2 at hF ⊢
 generalize qs.foldl (· * ·) (1:Rat) = p at *
 refine Tr.enter env _ Tryz.func79 (by kernel_rfl) rfl Tryz.ntmps79 rfl (by repeat (first | exact has00 | refine has01 ?_)) fun w0=>?_
 repeat' first|(refine gca ?_;first|(refine ca one_tr ?_;rintro o _ ⟨ho,rfl⟩))|refine al fun c=>?_|refine bdm ?_|(refine wo ?_;first|refine oa ?_)|refine sq ?_|refine rg ?_|refine xc ?_|refine nl ?_
 rename_i oo hoo
 repeat' first|(refine gca ?_;first|(refine ca (hF oo o hoo ho) ?_;rintro _ _ ⟨vn,vd,rfl,hvn,hvd,rfl⟩))|refine srz ?_|(refine wo ?_;first|refine oa ?_)|refine xc ?_|refine nl ?_|refine rt ?_
 exact rca (cs:=[.bool (decide (p.num < 0)),vn,vd]) (vs:=[.bool (decide (p.num < 0)),vn,vd]) (T:=TRt) ⟨vn,vd,rfl,hvn,hvd,rfl⟩
end Go.Art
namespace Go.Art
open Go Go.Proofs Go.RowKit
theorem sum_wOk {t:List Int} (h:∀ w ∈ t,0 ≤ w∧w ≤ 16777215):0 ≤ t.sum∧t.sum ≤ 16777215 * t.length:=sum_bound h
theorem sum_posT {t:List Int} (h:∀ w ∈ t,0 ≤ w∧w ≤ 16777215) (hp:∃ w ∈ t,0 < w):0 < t.sum:=by
 induction t with
 | nil=>obtain ⟨w,hw,_⟩:=hp;cases hw
 | cons a r ih=>
  have h1:=h a (by simp)
  have h2:=sum_bound (t:=r) fun w hw=>h w (by simp [hw])
  rw [List.sum_cons]
  obtain ⟨w,hw,hw0⟩:=hp
  rcases List.mem_cons.1 hw with rfl | hw
  ·omega
  ·have:=ih (fun w hw=>h w (by simp [hw])) ⟨w,hw,hw0⟩;omega
attribute [local irreducible] Fit pt own ro vw mpc lpt vels rels mow lrc dfr
attribute [local irreducible] lmp lme mit velg relg
end Go.Art
namespace Go.Art
open Go Go.Proofs Go.RowKit
def ordF:Nat→List Int→List Int→List Int
 | _,_,[]=>[]
 | i,l,j :: js=>l.getD (i + j.toNat) 0 :: ordF (i + 1) (swp l i (i + j.toNat)) js
theorem sum_const {α:Type} (w:α→Nat) (m:Nat):∀ (l:List α),(∀ x ∈ l,w x = m)→(l.map w).sum = l.length * m
 | [],_=>by simp
 | a :: l,h=>by
  rw [List.map_cons,List.sum_cons,h a (by simp),sum_const w m l (fun x hx=>h x (by simp [hx])),List.length_cons,Nat.succ_mul];omega
def wt (k:Nat) (l:List Int):Nat:=24 / fall k (l.length - 2)
theorem mk_scale (a D m:Nat) (hD:D ≠ 0) (hm:m ≠ 0):mkRat (a:Int) D = mkRat ((a * m:Nat):Int) (D * m):=by
 rw [Rat.mkRat_eq_iff hD (Nat.mul_ne_zero hD hm)]
 push_cast
 grind
theorem mk_one (D:Nat) (h:D ≠ 0):mkRat (D:Int) D = 1:=by
 rw [show (1:Rat) = mkRat 1 1 from rfl,Rat.mkRat_eq_iff h (by decide)];omega
open Go Go.Proofs Go.RowKit
attribute [local irreducible] Fit pt own ro vw mpc lpt vels rels mow lrc dfr
attribute [local irreducible] lmp lme mit velg relg
def plcR (tot:Int) (cut oth:List Int) (st:BitVec 64):Int × BitVec 64:=
 (alPick tot cut oth (sdraw cut.length st).1 (sdraw tot.toNat (sdraw cut.length st).2).1,(sdraw tot.toNat (sdraw cut.length st).2).2)
def setR (tot:Int) (cut oth:List Int) (k:Int) (st:BitVec 64):List Int × Int:=pickR k ((plcR tot cut oth st).1 + 1) (plcR tot cut oth st).2
end Go.Art
namespace Go.Art
open Go Go.Proofs Go.RowKit
def par (j:Nat):Nat:=(j - 1) / 2
structure HpUp (l:List Int) (i:Nat):Prop where
 a:∀ j,0 < j→j < l.length→j ≠ i→l.getD (par j) 0 ≤ l.getD j 0
 b:∀ j,0 < j→j < l.length→par j = i→0 < i→l.getD (par i) 0 ≤ l.getD j 0
structure HpDn (l:List Int) (i:Nat):Prop where
 a:∀ j,0 < j→j < l.length→par j ≠ i→l.getD (par j) 0 ≤ l.getD j 0
 b:∀ j,0 < j→j < l.length→par j = i→0 < i→l.getD (par i) 0 ≤ l.getD j 0
def Heap (l:List Int):Prop:=∀ j,0 < j→j < l.length→l.getD (par j) 0 ≤ l.getD j 0
def swq (l:List Int) (i j:Nat):List Int:=(l.set i (l.getD j 0)).set j (l.getD i 0)
open Go Go.Proofs Go.RowKit
attribute [local irreducible] Fit pt own ro vw mpc lpt vels rels mow lrc dfr
attribute [local irreducible] lmp lme mit velg relg
section
variable {P:Program} {E:Env P} {n:Sh} {X:Cx} {s:List K} {fr:Fr} {A:List Ch} {ops:Array Oper} {d:Nat} {ty t el:TypeId} {pos:String} {after:Array Edge} {v z:Value} {fuel by_:Nat} {listed:Array Bool} {S:World→Prop} {x y:Operand} {k1:IntKind}
end
section
variable {P:Program} {E:Env P} {n:Sh} {X:Cx} {s:List K} {fr:Fr} {A:List Ch} {ops:Array Oper} {rest:List Oper} {d:Nat} {ty t t':TypeId} {pos:String} {after:Array Edge} {x y:Operand} {m q:Int}
end
section
variable {P:Program} {E:Env P} {n:Sh} {X:Cx} {s:List K} {fr:Fr} {A:List Ch} {ops:Array Oper} {rest:List Oper} {d:Nat} {ty t:TypeId} {pos:String} {after:Array Edge} {v:Value} {x:Operand}
end
section
variable {n:Sh} {X:Cx} {s:List K} {fr:Fr} {A:List Ch} {ops:Array Oper} {rest:List Oper} {d:Nat} {ty:TypeId} {pos:String} {after:Array Edge} {x y:Operand} {a b:Int} {parts:List (Nat × Operand)}
end
abbrev THp:TypeId:=170
def hcut (h:List Int):List Int:=(h.set 0 (h.getD (h.length - 1) 0)).take (h.length - 1)
end Go.Art
namespace Go.Art
open Go
def Rep (h S:List Int):Prop:=Heap h∧h.Perm S∧S.Pairwise (· ≤ ·)
structure AlS where
 rest:List Int
 cut:List Int
 oth:List Int
 B:List Int
 A:List Int
def alStep (all:Int) (u:AlS) (i j:Int) (B A:List Int):AlS:=
 let ri:=u.rest.getD i.toNat 0
 let r:=u.rest.getD j.toNat 0 - (all - ri)
 ⟨u.rest.set j.toNat r,u.cut.set i.toNat ri,u.oth.set i.toNat j,if r > all then B else if r < all then srt (j :: B) else B,if r > all then j :: A else A⟩
def alRun (all:Int):Nat→AlS→AlS
 | 0,u=>u
 | f + 1,u=>match u.B,u.A with
  | i :: B,j :: A=>alRun all f (alStep all u i j B A)
  | _,_=>u
def alIn (t:List Int) (all:Int):Nat→AlS
 | 0=>⟨List.replicate t.length 0,List.replicate t.length 0,List.replicate t.length 0,[],[]⟩
 | i + 1=>let u:=alIn t all i
  let r:=t.getD i 0 * t.length
  ⟨u.rest.set i r,u.cut.set i all,u.oth.set i i,if r < all then srt ((i:Int) :: u.B) else u.B,if r < all then u.A else if r > all then srt ((i:Int) :: u.A) else u.A⟩
structure AlI (t:List Int) (all:Int) (u:AlS):Prop where
 lr:u.rest.length = t.length
 lc:u.cut.length = t.length
 lo:u.oth.length = t.length
 nd:(u.B ++ u.A).Nodup
 B:∀ i ∈ u.B,(0 ≤ i∧i < t.length)∧0 ≤ u.rest.getD i.toNat 0∧u.rest.getD i.toNat 0 < all
 A:∀ j ∈ u.A,(0 ≤ j∧j < t.length)∧all < u.rest.getD j.toNat 0∧u.rest.getD j.toNat 0 ≤ 1099511627776∧0 < t.getD j.toNat 0
 sum:(u.B.map fun i=>all - u.rest.getD i.toNat 0).sum = (u.A.map fun j=>u.rest.getD j.toNat 0 - all).sum
 cut:∀ c:Nat,c < t.length→0 ≤ u.cut.getD c 0∧u.cut.getD c 0 ≤ all
 oth:∀ c:Nat,c < t.length→(0 ≤ u.oth.getD c 0∧u.oth.getD c 0 < t.length)∧(u.cut.getD c 0 = all∨0 < t.getD (u.oth.getD c 0).toNat 0)
 zero:∀ c:Nat,c < t.length→¬ 0 < t.getD c 0→u.rest.getD c 0 = 0∧((c:Int) ∈ u.B∨u.cut.getD c 0 = 0)
structure AlJ (t:List Int) (all:Int) (n:Nat) (u:AlS):Prop where
 lr:u.rest.length = t.length
 lc:u.cut.length = t.length
 lo:u.oth.length = t.length
 nd:(u.B ++ u.A).Nodup
 B:∀ i ∈ u.B,(0 ≤ i∧i < n)∧0 ≤ u.rest.getD i.toNat 0∧u.rest.getD i.toNat 0 < all
 A:∀ j ∈ u.A,(0 ≤ j∧j < n)∧all < u.rest.getD j.toNat 0∧u.rest.getD j.toNat 0 ≤ 1099511627776∧0 < t.getD j.toNat 0
 sum:(u.B.map fun i=>all - u.rest.getD i.toNat 0).sum - (u.A.map fun j=>u.rest.getD j.toNat 0 - all).sum = n * all - t.length * (t.take n).sum
 cut:∀ c:Nat,c < n→u.cut.getD c 0 = all
 oth:∀ c:Nat,c < n→u.oth.getD c 0 = c
 zero:∀ c:Nat,c < n→¬ 0 < t.getD c 0→u.rest.getD c 0 = 0∧(c:Int) ∈ u.B
def alMu (u:AlS):Nat:=u.B.length + 2 * u.A.length
def alEnd (all:Int) (u:AlS):AlS:=alRun all (alMu u) u
def alF (t:List Int):AlS:=alEnd t.sum (alIn t t.sum t.length)
open Go Go.Proofs Go.RowKit
attribute [local irreducible] Fit pt own ro vw mpc lpt vels rels mow lrc dfr
attribute [local irreducible] lmp lme mit velg relg
structure MkG where
 i:Nat
 hb:List Int
 ha:List Int
 bv:Value
 av:Value
structure MkH where
 u:AlS
 hb:List Int
 ha:List Int
 bv:Value
 av:Value
end Go.Art
namespace Go.Art
open Go Go.Proofs Go.RowKit
theorem eq_of_getDN {xs ys:List Nat} (hl:xs.length = ys.length) (h:∀ j,j < xs.length→xs.getD j 0 = ys.getD j 0):xs = ys:=by
 refine List.ext_getElem hl fun i h1 h2=>?_
 have:=h i h1
 simpa [List.getD_eq_getElem?_getD,h1,h2] using this
attribute [local irreducible] Fit pt own ro vw mpc lpt vels rels mow lrc dfr
attribute [local irreducible] lmp lme mit velg relg
theorem SameNat_tr (a b:Value) (xs ys:List Nat):Tr Tryz.prog 66 [a,b] [vw a (Us xs),vw b (Us ys)] [] fun v D=>v = .bool (decide (xs = ys))∧D = []:=by
 refine Tr.enter env _ Tryz.func66 (by kernel_rfl) rfl Tryz.ntmps66 rfl (by repeat (first | exact has00 | refine has01 ?_)) fun w0=>?_
 refine TC.lenu (l:=xs) fun hl=>?_
 repeat' first|(refine wo ?_;first|(refine ao ?_;first|refine oa ?_)|refine oa ?_|refine lnm ?_)|(refine gc ?_;first|(refine cn (fun hB=>?_) (fun hB=>?_) <;> try (exfalso;omega)))|refine sq ?_|refine rg ?_|refine xc ?_|refine nl ?_|refine sk ?_|refine bk ?_|refine rt ?_
 ·refine r1 ⟨?_,rfl⟩
  rw [decide_eq_false];intro e;subst e;omega
 ·refine TC.loop (ι:=Nat) (fun k=>[(5,I k)]) (fun _=>[]) (fun k=>k ≤ xs.length∧∀ j,j < k→xs.getD j 0 = ys.getD j 0) (fun k=>xs.length - k) 0 [0,1] ⟨by omega,by omega⟩ ?_
  rintro k ⟨hk,heq⟩
  repeat' first|(refine wo ?_;first|(refine ao ?_;first|refine aw ?_|refine oa ?_)|refine oa ?_|refine lnm ?_)|(refine gc ?_;first|(refine ci (fun hB=>?_) (fun hB=>?_) <;> try (exfalso;omega))|(refine cn (fun hB=>?_) (fun hB=>?_) <;> try (exfalso;omega)))|refine sq ?_|refine rg ?_|refine xc ?_|refine nl ?_|refine sk ?_|refine bk ?_|refine xe ?_|refine rt ?_|refine xb ?_|refine rq ?_|refine nq ?_|(refine wq ?_;first|(refine qao ?_;first|refine qa ?_)|refine qlu ?_|refine qa ?_|refine qixmn ?_)
  ·refine r1 ⟨?_,rfl⟩
   rw [decide_eq_false];intro e;exact hB (by rw [e])
  ·refine lp (k + 1) ⟨by omega,fun j hj=>?_⟩
   by_cases hjk:j < k
   ·exact heq j hjk
   ·obtain rfl:j = k:=by omega
    omega
  ·refine r1 ⟨?_,rfl⟩
   rw [decide_eq_true]
   exact eq_of_getDN (by omega) (fun j hj=>heq j (by omega))
theorem SameWhole_tr (b1 b2:Bool) (o1 o2:Value) (l1 l2:List Nat):Tr Tryz.prog 65 [.agg #[.bool b1,o1],.agg #[.bool b2,o2]] [vw o1 (Us l1),vw o2 (Us l2)] [] fun v D=>v = .bool (decide (b1 = b2∧l1 = l2))∧D = []:=by
 refine Tr.enter env _ Tryz.func65 (by kernel_rfl) rfl Tryz.ntmps65 rfl (by repeat (first | exact has00 | refine has01 ?_)) fun w0=>?_
 repeat' first|(refine gca ?_;first|(refine ca (SameNat_tr o1 o2 l1 l2) ?_;rintro _ _ ⟨rfl,rfl⟩))|refine bx fun q=>?_|(refine wo ?_;first|(refine ao ?_;first|refine ibe ?_)|refine oa ?_|refine ld ?_|refine gy ?_|refine gn ?_|(refine gsi (fun hB=>?_) (fun hB=>?_) <;> try (exfalso;omega)))|refine sq ?_|refine rg ?_|refine xc ?_|refine nl ?_|refine rt ?_
 ·have e:b1 = b2:=by simpa using hB
  refine r1 ⟨?_,rfl⟩
  congr 1;exact decide_eq_decide.2 ⟨fun h=>⟨e,h⟩,fun h=>h.2⟩
 ·have e:¬ b1 = b2:=by simpa using hB
  refine r1 ⟨?_,rfl⟩
  rw [decide_eq_false fun h=>e h.1]
theorem SameRatio_tr (t1 t2:Fr3) (n1 d1 n2 d2:Value):Tr Tryz.prog 22 [.agg #[.bool t1.1,n1,d1],.agg #[.bool t2.1,n2,d2]] [vw n1 (Us t1.2.1),vw d1 (Us t1.2.2),vw n2 (Us t2.2.1),vw d2 (Us t2.2.2)] []
  fun v D=>v = .bool (decide (t1 = t2))∧D = []:=by
 obtain ⟨b1,x1,y1⟩:=t1
 obtain ⟨b2,x2,y2⟩:=t2
 dsimp only
 refine Tr.enter env _ Tryz.func22 (by kernel_rfl) rfl Tryz.ntmps22 rfl (by repeat (first | exact has00 | refine has01 ?_)) fun w0=>?_
 repeat' first|(refine gca ?_;first|(refine ca (SameWhole_tr b1 b2 n1 n2 x1 x2) ?_;rintro _ _ ⟨rfl,rfl⟩)|(refine ca (SameNat_tr d1 d2 y1 y2) ?_;rintro _ _ ⟨rfl,rfl⟩))|refine bx fun q=>?_|refine lda ?_|(refine wo ?_;first|refine oa ?_|refine ld ?_|refine gy ?_|refine gn ?_|(refine gsi (fun hB=>?_) (fun hB=>?_) <;> try (exfalso;omega)))|refine sq ?_|refine rg ?_|refine xc ?_|refine nl ?_|refine rt ?_
 ·refine r1 ⟨?_,rfl⟩
  congr 1;refine decide_eq_decide.2 ⟨fun h=>by rw [hB.1,hB.2,h],fun h=>by injection h with _ h;injection h⟩
 ·refine r1 ⟨?_,rfl⟩
  rw [decide_eq_false fun h=>hB (by injection h with h1 h;injection h with h2 _;exact ⟨h1,h2⟩)]
end Go.Art
namespace Go.Art
open Go Go.Proofs Go.RowKit
attribute [local irreducible] Fit pt own ro vw mpc lpt vels rels mow lrc dfr
attribute [local irreducible] lmp lme mit velg relg
end Go.Art
namespace Go.Art
open Go Go.Proofs Go.RowKit
def over (n:Int):BitVec 64:=c64 18446744073709551615 % c64 n
attribute [local irreducible] Fit pt own ro vw mpc lpt vels rels mow lrc dfr
end Go.Art
namespace Go.Art
open Go Go.Proofs Go.RowKit
def ins (x:Int) (l:List Int) (k:Nat):List Int:=l.take k ++ x :: l.drop k
attribute [local irreducible] Fit pt own ro vw mpc lpt vels rels mow lrc dfr
attribute [local irreducible] lmp lme mit velg relg
structure RoG where
 i:Nat
 l:List Int
 st:BitVec 64
structure RiG where
 i:Nat
 o:Value
 ds:List Int
end Go.Art
namespace Go.Art
open Go Go.Proofs Go.RowKit
abbrev w0u:Value:=.int .u64 0
structure RwG where
 i:Nat
 l:List Int
 outs:List Int
 sv:Value
 x:Lw
attribute [local irreducible] Fit pt own ro vw mpc lpt vels rels mow lrc dfr
attribute [local irreducible] lmp lme mit velg relg
end Go.Art
namespace Go.Art
open Go Go.Proofs Go.RowKit
def colBad (tot:Int) (cut oth:List Int) (i:Nat):Prop:=cut.getD i 0 < 0∨tot < cut.getD i 0∨oth.getD i 0 < 0∨(cut.length:Int) ≤ oth.getD i 0
def alFst (tot:Int) (cut oth:List Int):Prop:=(1 ≤ tot∧tot ≤ 1099511627776)∧(1 ≤ cut.length∧cut.length ≤ 65536)∧oth.length = cut.length
attribute [local irreducible] Fit pt own ro vw mpc lpt vels rels mow lrc dfr
attribute [local irreducible] lmp lme mit velg relg
end Go.Art
namespace Go.Art
open Go Go.Proofs Go.RowKit
def rloH (sv:Value) (x:Lw) (used:Int):List Value:=
 match x with
 | .inl st=>[nS,.bool true,U st,I used,.bool false]
 | .inr (_,br)=>[sv,.bool false,w0u,I used,.bool br]
section
variable {P:Program} {E:Env P} {n:Sh} {X:Cx} {s:List K} {fr:Fr} {A:List Ch} {ops:Array Oper} {rest:List Oper} {d:Nat} {ty t:TypeId} {pos:String} {after:Array Edge} {x:Operand} {dt:TypeDesc} {sz by_:Nat} {z:Value} {cs vs:List Value} {b j:Nat} {T:TypeId}
theorem qlda (k:TQ E n X s ops rest ((d,.agg vs.toArray) :: fr) A) (hx:ev fr x = some (.pointer (some ⟨b,j,none⟩)):=by rfl) (hm:pt b cs T ∈ A:=by exact memA) (ht:lk E.und t = some dt:=by rfl) (hg:aggB dt = true:=by rfl) (hi:lk E.inf t = some (z,sz,by_):=by rfl)
  (hv:(cs.drop j).take sz = vs:=by rfl) (hl:vs.length = sz:=by rfl) (hd:Nat.blt d n.n = true:=by rfl):TQ E n X s ops (⟨some d,.load t x,ty,pos,after,none⟩ :: rest) fr A:=TQ.val (fun _ h=>R_loadA ht hg hi hx (h.h (pt b cs T) hm) hv hl) k hd
end
attribute [local irreducible] Fit pt own ro vw mpc lpt vels rels mow lrc dfr
attribute [local irreducible] lmp lme mit velg relg
end Go.Art
namespace Go.Art
open Go Go.Proofs Go.RowKit
def madeT (tbl:List Int) (k:Nat):List Int:=(tbl.take k).map fun x=>pick x 6
section
variable {P:Program} {E:Env P} {X:Cx} {fr:Fr} {A D G:List Ch} {n:Sh}
end
attribute [local irreducible] Fit pt own ro vw mpc lpt vels rels mow lrc dfr
attribute [local irreducible] lmp lme mit velg relg bnd owl madeT
section
variable {P:Program} {E:Env P} {n:Sh} {X:Cx} {s:List K} {fr:Fr} {A:List Ch} {ops:Array Oper} {rest:List Oper} {d:Nat} {ty tx asr:TypeId} {pos:String} {after:Array Edge} {v:Value} {x:Operand} {dd:TypeDesc}
end
end Go.Art
namespace Go.Art
open Go Go.Proofs Go.RowKit
attribute [local irreducible] Fit pt own ro vw mpc lpt vels rels mow lrc dfr
attribute [local irreducible] lmp lme mit velg relg bnd owl dfrl
end Go.Art
namespace Go.Art
open Go Go.Proofs Go.RowKit
theorem Tr.pre {P:Program} {f:FuncId} {args:List Value} {pre pre' A:List Ch} {R:Value→List Ch→Prop} (h:Tr P f args pre A R) (hp:∀ c ∈ pre,Has pre' c) (hl:∀ c ∈ pre',∀ b,¬ c.wr b∧¬ c.rd b):Tr P f args pre' A R:=
 ⟨fun w hw=>h.run w (lend (hw.perm List.perm_append_comm) hp),hl⟩
theorem FAdd2_tr (q r:Rat) (lv v1 v2 v3 v4:Value) (hq:FB q 8589934592) (hr:FB r 8589934592) :
  Tr Tryz.prog 32 [lv] [vwf lv 2 (rrow q (v1,v2) ++ rrow r (v3,v4)),vw v1 (Us (dg q.num.natAbs)),vw v2 (Us (dg q.den)),vw v3 (Us (dg r.num.natAbs)),vw v4 (Us (dg r.den))] [] (FQ2 (q + r) 0):=by
 have h:=FAdd_tr lv [q,r] [(v1,v2),(v3,v4)] rfl (fun i hi=>by
  match i,hi with
  | 0,_=>exact hq
  | 1,_=>exact hr) (fun i hi=>by
  match i,hi with
  | 0,_=>exact ⟨by rw [show (([q,r].take 0).foldl (· + ·) (0:Rat)).num.natAbs = 0 from rfl,dg_zero];exact Nat.zero_le _,by rw [show (([q,r].take 0).foldl (· + ·) (0:Rat)).den = 1 from rfl];exact Nat.le_trans (dg_len1 (by decide)) (by decide)⟩
  | 1,_=>
   show FB (0 + q) _
   rw [Rat.zero_add];exact hq)
 rw [show [q,r].foldl (· + ·) (0:Rat) = q + r by show 0 + q + r = q + r;rw [Rat.zero_add]] at h
 refine h.pre ?_ (by repeat (first | exact has00 | refine has01 ?_))
 refine has1 (has_vwf (List.Mem.head _)) (has1 (has_vfr_cons (has_vw (by simp)) (has_vw (by simp)) (has_vfr_cons (has_vw (by simp)) (has_vw (by simp)) has_vfr_nil)) has0)
structure WhG where
 i:Nat
 vn:Value
 vd:Value
attribute [local irreducible] Fit pt own ro vw mpc lpt vels rels mow lrc dfr
attribute [local irreducible] lmp lme mit velg relg bnd owl madeT
end Go.Art
namespace Go.Art
open Go Go.Proofs Go.RowKit
theorem Im.tail (c:Ch) (A:List Ch):Im (c :: A) A:=Im.trans (Im.perm (List.perm_append_comm (l₁:=[c]) (l₂:=A))) (Im.drop A [c])
theorem flat_set {sz:Nat}:∀ {rs:List (List Value)} {i:Nat} {r:List Value},(∀ r ∈ rs,r.length = sz)→i < rs.length→rs.flatten.take (sz * i) ++ r ++ rs.flatten.drop (sz * i + sz) = (rs.set i r).flatten
 | [],i,_,_,h=>absurd h (Nat.not_lt_zero _)
 | a :: rs,0,r,hl,_=>by
  have:=hl a (by simp)
  rw [List.flatten_cons,Nat.mul_zero,Nat.zero_add,List.take_zero,List.nil_append,List.drop_left' this,List.set_cons_zero,List.flatten_cons]
 | a :: rs,i + 1,r,hl,h=>by
  have ha:=hl a (by simp)
  have ih:=flat_set (rs:=rs) (i:=i) (r:=r) (fun r hr=>hl r (by simp [hr])) (by simpa using h)
  rw [List.set_cons_succ,List.flatten_cons,List.flatten_cons,← ih,show sz * (i + 1) = a.length + sz * i by rw [ha,Nat.mul_succ];omega,Nat.add_assoc,List.take_length_add_append,List.drop_length_add_append]
  simp [List.append_assoc]
theorem rows_len {qs:List Rat} {hs:List (Value × Value)}:∀ r ∈ List.zipWith rrow qs hs,r.length = 3:=fun r hr=>by
 obtain ⟨j,hj,rfl⟩:=List.mem_iff_getElem.1 hr
 rw [List.getElem_zipWith];rfl
theorem zip_set {qs:List Rat} {hs:List (Value × Value)} {q:Rat} {h:Value × Value}:∀ {i:Nat},(List.zipWith rrow qs hs).set i (rrow q h) = List.zipWith rrow (qs.set i q) (hs.set i h):=by
 induction qs generalizing hs with
 | nil=>intro i;simp
 | cons a r ih=>
  intro i
  cases hs with
  | nil=>simp
  | cons b s=>
   cases i with
   | zero=>simp
   | succ i=>simp [ih]
theorem rcs_set {qs:List Rat} {hs:List (Value × Value)} (hl:hs.length = qs.length) {i:Nat} (hi:i < qs.length) (q:Rat) (h:Value × Value):(rcs qs hs).take (3 * i) ++ rrow q h ++ (rcs qs hs).drop (3 * i + 3) = rcs (qs.set i q) (hs.set i h):=by
 unfold rcs
 rw [flat_set rows_len (by simp;omega),zip_set]
theorem rcs_len {qs:List Rat} {hs:List (Value × Value)} (hl:hs.length = qs.length):(rcs qs hs).length = qs.length * 3:=by
 induction qs generalizing hs with
 | nil=>simp [rcs]
 | cons q r ih=>
  cases hs with
  | nil=>simp at hl
  | cons h s=>
   have:=ih (hs:=s) (by simpa using hl)
   unfold rcs at *
   simp only [List.zipWith_cons_cons,List.flatten_cons,List.length_append,this,List.length_cons,List.length_nil]
   omega
theorem rcs_app {qs rs:List Rat} {hs gs:List (Value × Value)} (hl:hs.length = qs.length):rcs (qs ++ rs) (hs ++ gs) = rcs qs hs ++ rcs rs gs:=by
 unfold rcs
 rw [List.zipWith_append hl.symm,List.flatten_append]
theorem rcs_one (q:Rat) (h:Value × Value):rcs [q] [h] = rrow q h:=by simp [rcs]
theorem hp_len {hs:List (Value × Value)} {qs:List Rat} (hl:hs.length = qs.length):(hpc hs).length = (pcl qs).length:=by rw [hpc_len,pcl_len,hl]
theorem ofr_snoc {hs:List (Value × Value)} {qs:List Rat} (hl:hs.length = qs.length) (q:Rat) (v1 v2:Value) {A F:List Ch} (hf:Fit A [own T64 v1 (Us (dg q.num.natAbs)),own T64 v2 (Us (dg q.den)),ofr hs qs] F):Im A (ofr (hs ++ [(v1,v2)]) (qs ++ [q]) :: F):=by
 refine Im.trans hf ?_
 show Im (own T64 v1 (Us (dg q.num.natAbs)) :: own T64 v2 (Us (dg q.den)) :: owl T64 wU (hpc hs) (pcl qs) :: F) (owl T64 wU (hpc (hs ++ [(v1,v2)])) (pcl (qs ++ [q])) :: F)
 have h0:=hp_len hl
 rw [hpc_app,pcl_app,Us_eq,Us_eq]
 refine (Im.perm (List.Perm.swap _ _ _)).trans ((Im.cons _ (owl_snoc h0 v1 (Zs (dg q.num.natAbs)) F)).trans ?_)
 have:=owl_snoc (e:=T64) (g:=wU) (hs:=hpc hs ++ [v1]) (ls:=pcl qs ++ [Zs (dg q.num.natAbs)]) (by simp [h0]) v2 (Zs (dg q.den)) F
 rw [List.append_assoc,List.append_assoc] at this
 exact this
theorem has_ofr {F:List Ch} {hs:List (Value × Value)} {qs:List Rat} (hl:hs.length = qs.length) (h:ofr hs qs ∈ F):Has F (vfr hs qs):=has_owl (hp_len hl) h
def zrs (m:Nat):List Value:=(List.replicate m [Value.bool false,nS,nS]).flatten
theorem zrs_eq (m:Nat):(List.replicate m (Value.agg #[Value.bool false,Value.slice none 0 0,Value.slice none 0 0]).cells.toList).flatten = zrs m:=rfl
theorem zrs_zero:zrs 0 = []:=rfl
theorem zrs_step (m:Nat):(zrs (m + 1)).drop 3 = zrs m:=by unfold zrs;rw [List.replicate_succ,List.flatten_cons];exact List.drop_left' rfl
theorem rcs_fill {qs:List Rat} {hs:List (Value × Value)} (hl:hs.length = qs.length) (m:Nat) (q:Rat) (h:Value × Value):(rcs qs hs ++ zrs (m + 1)).take (3 * qs.length) ++ rrow q h ++ (rcs qs hs ++ zrs (m + 1)).drop (3 * qs.length + 3) = rcs (qs ++ [q]) (hs ++ [h]) ++ zrs m:=by
 have hL:(rcs qs hs).length = 3 * qs.length:=by rw [rcs_len hl];omega
 rw [List.take_left' hL,← hL,List.drop_length_add_append,zrs_step,rcs_app hl,rcs_one]
section
variable {P:Program} {E:Env P} {n:Sh} {X:Cx} {s:List K} {fr:Fr} {A A':List Ch} {ops:Array Oper} {rest:List Oper} {d m N sz by_:Nat} {ty t t' el:TypeId} {pos:String} {after:Array Edge} {v u z:Value} {x y:Operand} {xs vs:List Value} {dt:TypeDesc} {k1 k':IntKind} {w:World}
theorem qixws {i:Int} (k:TQ E n X s ops rest ((d,.pointer (some (adr v (sz * i.toNat)))) :: fr) A) (hx:ev fr x = some v:=by rfl) (hy:ev fr y = some (.int k1 i):=by rfl) (hm:Has A (vwf v N xs):=by exact hasA) (hb:0 ≤ i∧i < N:=by omega)
  (ht:lk E.und t = some (.slice el):=by rfl) (he:lk E.inf el = some (z,sz,by_):=by rfl) (hd:Nat.blt d n.n = true:=by rfl):TQ E n X s ops (⟨some d,.indexAddr t x y,ty,pos,after,none⟩ :: rest) fr A:=TQ.val (fun w h=>R_idxW ht he hx hy (hm.P w h) hb) k hd
theorem qldaw (hv:(xs.drop m).take sz = vs) (k:TQ E n X s ops rest ((d,.agg vs.toArray) :: fr) A) (hx:ev fr x = some (.pointer (some (adr v m))):=by rfl) (hm:Has A (vwf v N xs):=by exact hasA) (ht:lk E.und t = some dt:=by rfl) (hg:aggB dt = true:=by rfl) (hi:lk E.inf t = some (z,sz,by_):=by rfl) (hl:vs.length = sz:=by rfl) (hd:Nat.blt d n.n = true:=by rfl) :
  TQ E n X s ops (⟨some d,.load t x,ty,pos,after,none⟩ :: rest) fr A:=TQ.val (fun w h=>R_loadW ht hg hi hx (hm.P w h) hv hl) k hd
end
end Go.Art
namespace Go.Art
open Go Go.RowKit
def noDef (ops:Array Oper):Bool:=ops.all fun o=>match o.op with
 | .defer _=>false
 | _=>true
theorem noDef_spec {ops:Array Oper} (h:noDef ops = true) {j:Nat} {oj:Oper} (hj:ops[j]? = some oj):∀ c,oj.op ≠ .defer c:=fun c e=>by
 have:=(Array.all_eq_true.1 h) j (by
  rcases Nat.lt_or_ge j ops.size with h1 | h1
  ·exact h1
  ·rw [Array.getElem?_eq_none h1] at hj;cases hj)
 have h2:ops[j]'(by
  rcases Nat.lt_or_ge j ops.size with h1 | h1
  ·exact h1
  ·rw [Array.getElem?_eq_none h1] at hj;cases hj) = oj:=by
  have h3:=(Array.getElem?_eq_some_iff.1 hj).2
  exact h3
 rw [h2] at this
 simp only [e] at this
 cases this
section
variable {F:Fence} {m:Nat} {P:Program} {md:Region.Mode} {ops:Array Oper} {Q:Exit→Act→World→Prop} {S:World→Prop}
theorem upon_move {o:Oper} {a b:Act} {K K':Act→World→Prop} {r:Result Next} (h1:∀ u w,K (b.put o.dst u) w→K' (a.put o.dst u) w) (h2:∀ d w,K (({ b with defers:=d :: b.defers }:Act).put o.dst undef) w→K' (({ a with defers:=d :: a.defers }:Act).put o.dst undef) w)
  (h3:∀ c w,Q (.panic c) b w→Q (.panic c) a w) (h:o.uponIn F m P b K Q r):o.uponIn F m P a K' Q r:=by
 cases r with
 | ok x w'=>
  cases x with
  | value u=>exact h1 _ _ h
  | skip=>exact h1 _ _ h
  | defer d=>exact h2 _ _ h
  | enter f args=>exact ⟨h.1,CallsIn.mono h.2 fun e w'' he=>match e,he with
   | .returned u,he=>h1 _ _ he
   | .panicked c,he=>h3 _ _ he
   | .outgrown,he=>he⟩
  | row row args=>exact ⟨h.1,RowsIn.mono h.2 fun u w'' he=>h1 _ _ he⟩
  | round l f tmps assign body=>exact ⟨h.1,RoundIn.mono h.2 fun e w'' he=>match e,he with
   | .returned u,he=>h1 _ _ he
   | .panicked c,he=>h3 _ _ he
   | .outgrown,he=>he⟩
  | _=>exact h
 | halt x w'=>
  cases x with
  | panic v=>exact h3 _ _ h
  | _=>exact h
theorem upon_own {o:Oper} {a:Act} {K:Act→World→Prop} {r:Result Next} (h:o.uponIn F m P a K Q r):o.uponIn F m P a (fun a' w'=>(∃ u df,a' = ({ a with defers:=df }:Act).put o.dst u)∧K a' w') Q r:=
 upon_move (fun u w h=>⟨⟨u,a.defers,rfl⟩,h⟩) (fun d w h=>⟨⟨undef,d :: a.defers,rfl⟩,h⟩) (fun _ _ h=>h) h
theorem op_ownR {j:Nat} {oj:Oper} {K:Act→World→Prop} {a:Act} {w:World} (hj:ops[j]? = some oj) (h:wpOpIn F m P ops Q j K a w) :
  wpOpIn F m P ops Q j (fun a' w'=>(∃ u df,a' = ({ a with defers:=df }:Act).put oj.dst u)∧K a' w') a w:=by
 unfold wpOpIn at *
 simp only [hj] at *
 split
 ·rename_i hw
  rw [if_pos hw] at h
  exact ⟨h.1,upon_own h.2⟩
 ·rename_i hw
  rw [if_neg hw] at h
  exact ⟨h.1,⟨_,a.defers,rfl⟩,h.2⟩
theorem op_putR {j d:Nat} {oi oj:Oper} {v:Value} {K:Act→World→Prop} {a:Act} {w:World} (hnd:∀ c,oj.op ≠ .defer c) (hj:ops[j]? = some oj) (hdi:oi.dst = some d) (hap:oi.apart ops oj = true) (hsj:∀ cs b,oj.op ≠ .select cs b) (hQ:∀ c a w,¬ Q (.panic c) a w)
  (h:wpOpIn F m P ops Q j K (a.put oi.dst v) w):wpOpIn F m P ops Q j (fun a' w'=>K (a'.put oi.dst v) w') a w:=by
 obtain ⟨p1,p2,p3⟩:=Oper.apart_spec hap
 unfold wpOpIn at *
 simp only [hj] at *
 rw [wanted_put oj a oi.dst v p1,about_put oj w a oi.dst v p1] at h
 split
 ·rename_i hw
  rw [if_pos hw] at h
  have h1:=h.1
  have h2:=h.2
  rw [Oper.semAt_eq _ _ _ hnd,execOp_put oj hsj a oi.dst v p1] at h2
  rw [about_put oj w a oi.dst v p1] at h1
  refine ⟨h1,?_⟩
  rw [Oper.semAt_eq _ _ _ hnd]
  refine upon_move (fun u w hk=>?_) (fun dd w hk=>?_) (fun c w hk=>absurd hk (hQ c _ w)) h2
  ·rw [← Act.put_comm a v u p2];exact hk
  ·rw [← Act.put_comm _ v undef p2,← Act.put_defers];exact hk
 ·rename_i hw
  rw [if_neg hw] at h
  refine ⟨h.1,?_⟩
  rw [← Act.put_comm a v undef p2];exact h.2
theorem wpAnyS_takeR {i d:Nat} {o:Op} {ty:TypeId} {pos:String} {after:Array Edge} {v:Value} (hnd:noDef ops = true) (hi:ops[i]? = some ⟨some d,o,ty,pos,after,none⟩) (hs:Region.noSelect ops = true) (hQ:∀ c a w,¬ Q (.panic c) a w) :
  ∀ (fuel:Nat) (listed:Array Bool) (a:Act) (w:World),Region.free md ops listed i = true→(Region.ready md ops listed).contains i = true→YS P S ⟨some d,o,ty,pos,after,none⟩ v a→S w →
   wpAnyS F m P md ops Q S fuel (listed.setIfInBounds i true) (a.put (some d) v) w→wpAnyS F m P md ops Q S (fuel + 1) listed a w:=by
 have hsel:=fun j oj cs b (h:ops[j]? = some oj)=>Region.noSelect_spec hs j oj cs b h
 have now:∀ (K:Act→World→Prop) (a:Act) (w:World),YS P S ⟨some d,o,ty,pos,after,none⟩ v a→S w→K (a.put (some d) v) w→wpOpIn F m P ops Q i K a w:=fun K a w hy hS h=>by
  unfold wpOpIn
  have hn:∀ c,(⟨some d,o,ty,pos,after,none⟩ : Oper).op ≠ .defer c:=noDef_spec hnd hi
  simp only [hi,Region.wanted,if_true,Oper.wpIn]
  rw [Oper.semAt_eq _ _ _ hn,(hy w hS).1]
  exact ⟨fun f hf=>(by rw [(hy w hS).2] at hf;cases hf),h⟩
 have gen:∀ (fuel:Nat) (listed:Array Bool) (a:Act) (w:World),(∀ j oj,ops[j]? = some oj→j ≠ i→listed.getD j true = false→(∀ e ∈ oj.after,Region.binds md e = true→e.on ≠ i)→Oper.apart ops ⟨some d,o,ty,pos,after,none⟩ oj = true) →
   i ∈ Region.ready md ops listed→YS P S ⟨some d,o,ty,pos,after,none⟩ v a→S w→wpAnyS F m P md ops Q S fuel (listed.setIfInBounds i true) (a.put (some d) v) w→wpAnyS F m P md ops Q S (fuel + 1) listed a w:=by
  intro fuel
  induction fuel with
  | zero=>
   intro listed a w _ hr hy hS H
   refine ⟨fun h=>(by rw [h] at hr;cases hr),fun j hj=>?_⟩
   by_cases hji:j = i
   ·subst hji;exact now _ a w hy hS ⟨hS,H⟩
   ·have:=ready_mono hj hji
    rw [H.1] at this
    cases this
  | succ fuel ih=>
   intro listed a w hfree hr hy hS H
   refine ⟨fun h=>(by rw [h] at hr;cases hr),fun j hj=>?_⟩
   by_cases hji:j = i
   ·subst hji;exact now _ a w hy hS ⟨hS,H⟩
   ·obtain ⟨hjun,oj,hoj,hall⟩:=mem_ready.1 hj
    have hnot:∀ e ∈ oj.after,Region.binds md e = true→e.on ≠ i:=fun e he hb heq=>by
     have h1:=hall e he hb
     have h0:=(mem_ready.1 hr).1
     rw [heq] at h1
     rcases Nat.lt_or_ge i listed.size with h' | h'
     ·simp [h'] at h0 h1;rw [h0] at h1;cases h1
     ·simp [Array.getElem?_eq_none h'] at h1
    have hap:=hfree j oj hoj hji hjun hnot
    obtain ⟨p1,p2,p3⟩:=Oper.apart_spec hap
    have h2:=op_putR (oi:=⟨some d,o,ty,pos,after,none⟩) (noDef_spec hnd hoj) hoj rfl hap (fun cs b=>hsel j oj cs b hoj) hQ (H.2 j (ready_mono hj hji))
    have h3:=op_ownR hoj h2
    refine wpOpIn_mono (fun a' w' h4=>?_) h3
    obtain ⟨⟨u,df,rfl⟩,hS',h5⟩:=h4
    have hy':YS P S ⟨some d,o,ty,pos,after,none⟩ v (({ a with defers:=df }:Act).put oj.dst u):=fun w hw=>by
     rw [execOp_put _ (fun cs b=>hsel i _ cs b hi) ({ a with defers:=df }:Act) oj.dst u p3,about_put _ w ({ a with defers:=df }:Act) oj.dst u p3]
     exact hy w hw
    have hfree':∀ k ok,ops[k]? = some ok→k ≠ i→(listed.setIfInBounds j true).getD k true = false→(∀ e ∈ ok.after,Region.binds md e = true→e.on ≠ i)→Oper.apart ops ⟨some d,o,ty,pos,after,none⟩ ok = true:=fun k ok hk hki hun hno=>by
     refine hfree k ok hk hki ?_ hno
     by_cases hjk:j = k
     ·subst hjk;exact hjun
     ·rw [getD_set_ne true hjk] at hun;exact hun
    refine ⟨hS',ih (listed.setIfInBounds j true) _ w' hfree' (ready_mono hr (Ne.symm hji)) hy' hS' ?_⟩
    rw [Array.setIfInBounds_comm _ _ hji]
    exact h5
 intro fuel listed a w hf hr hy hS H
 exact gen fuel listed a w (Region.free_spec hi hf) (by simpa using hr) hy hS H
end
section
variable {P:Program} {E:Env P} {n:Sh} {X:Cx} {s:List K} {fr:Fr} {A A' B:List Ch} {ops:Array Oper} {d:Nat} {o:Op} {ty:TypeId} {pos:String} {after:Array Edge} {v:Value} {fuel:Nat} {listed:Array Bool} {S:World→Prop}
theorem kr (i:Nat) (hv:∀ w,S w→OpV P n fr o ty w v w) (k:TS E n X s S ops fuel (listed.setIfInBounds i true) ((d,v) :: fr) A) (hi:ops[i]? = some ⟨some d,o,ty,pos,after,none⟩:=by rfl) (hs:Region.noSelect ops = true:=by kernel_rfl) (hf:Region.free .any ops listed i = true:=by kernel_rfl)
  (hr:(Region.ready .any ops listed).contains i = true:=by kernel_rfl) (hnd:noDef ops = true:=by kernel_rfl) (hd:Nat.blt d n.n = true:=by rfl) (hab:∀ w ρ,(⟨some d,o,ty,pos,after,none⟩ : Oper).about P w ρ = none:=by exact fun _ _=>rfl):TS E n X s S ops (fuel + 1) listed fr A:=
 ⟨fun w hw hS a ha=>wpAnyS_takeR hnd hi hs (fun c a w h=>h.1 c rfl) fuel listed a w hf hr (fun w' hw'=>⟨(hv w' hw').run a ha _ _ _ _,hab _ _⟩) hS (k.run w hw hS _ (ha.put hd v))⟩
theorem kra (i:Nat) (k:TS E n X s S ops fuel (listed.setIfInBounds i true) ((d,v) :: fr) A) (hi:ops[i]? = some ⟨some d,o,ty,pos,after,none⟩:=by rfl) (hv:evOp E fr o = some v:=by rfl) (hs:Region.noSelect ops = true:=by kernel_rfl) (hf:Region.free .any ops listed i = true:=by kernel_rfl)
  (hr:(Region.ready .any ops listed).contains i = true:=by kernel_rfl) (hnd:noDef ops = true:=by kernel_rfl) (hd:Nat.blt d n.n = true:=by rfl) (hab:∀ w ρ,(⟨some d,o,ty,pos,after,none⟩ : Oper).about P w ρ = none:=by exact fun _ _=>rfl):TS E n X s S ops (fuel + 1) listed fr A:=
 kr i (fun _ _=>R_auto hv) k hi hs hf hr hnd hd hab
theorem krl (i:Nat) {t:TypeId} {x:Operand} {b j:Nat} {cs:List Value} {T:TypeId} {dt:TypeDesc} (hm:∀ w,S w→w.heap[b]? = some (.cells cs.toArray T (0,0))) (k:TS E n X s S ops fuel (listed.setIfInBounds i true) ((d,v) :: fr) A) (hi:ops[i]? = some ⟨some d,.load t x,ty,pos,after,none⟩:=by rfl) (hx:ev fr x = some (.pointer (some ⟨b,j,none⟩)):=by rfl)
  (hj:cs[j]? = some v:=by rfl) (ht:lk E.und t = some dt:=by rfl) (hg:aggB dt = false:=by rfl) (hs:Region.noSelect ops = true:=by kernel_rfl) (hf:Region.free .any ops listed i = true:=by kernel_rfl)
  (hr:(Region.ready .any ops listed).contains i = true:=by kernel_rfl) (hnd:noDef ops = true:=by kernel_rfl) (hd:Nat.blt d n.n = true:=by rfl):TS E n X s S ops (fuel + 1) listed fr A:=
 kr i (fun w hw=>R_load ht hg hx (blk_cell (hm w hw) (by simpa using hj))) k hi hs hf hr hnd hd
end
end Go.Art
set_option maxRecDepth 4000
namespace Go.Art
open Go Go.Proofs Go.RowKit
attribute [local irreducible] Fit pt own ro vw mpc lpt vels rels mow lrc dfr
def left (G:Int→Option Value) (x:Int):Bool:=(G x).isSome
def loneL (many:List Int) (G:Int→Option Value) (ls:List (List Int)) (i:Nat):List Int:=if many.getD i 0 = 1 then (ls.getD i []).filter (left G) else []
end Go.Art
set_option maxRecDepth 4000
namespace Go.Art
open Go Go.Proofs Go.RowKit
attribute [local irreducible] Fit pt own ro vw mpc lpt vels rels mow lrc dfr
def idx (ls:List (List Int)) (x:Int) (i:Nat):List Int:=((List.range i).filter fun j=>decide (x ∈ ls.getD j [])).map fun j:Nat=>(j:Int)
structure UInv (k:Int) (ls:List (List Int)) (G:Int→Option Value) (g:Int→List Int) (many q:List Int):Prop where
 dom:∀ x,left G x = true→0 ≤ x∧x < k
 sets:∀ x,left G x = true→g x = idx ls x ls.length
 gone:∀ x,0 ≤ x→x < k→left G x = false→Kn ls x
 len:many.length = ls.length
 que:∀ x ∈ q,0 ≤ x∧x < k∧Kn ls x
 size:q.length + cnt (left G) (belowI k) * (ls.length + 1) ≤ (k.toNat + 1) * (ls.length + 1)
def Fine1 (ls:List (List Int)) (G:Int→Option Value) (many q:List Int) (i:Nat):Prop:=
 many.getD i 0 = cnt (left G) (ls.getD i [])∧(cnt (left G) (ls.getD i []) = 1→∀ x ∈ ls.getD i [],left G x = true→x ∈ q)
structure VInv (k:Int) (ls:List (List Int)) (G:Int→Option Value) (g:Int→List Int) (x:Int) (W many q r:List Int) (j:Nat):Prop where
 inv:UInv k ls G g many q
 many:∀ i,i < ls.length→many.getD i 0 = cnt (left G) (ls.getD i []) + (if x ∈ ls.getD i []∧(i:Int) ∉ W.take j then 1 else 0)
 fine:∀ i,i < ls.length→(x ∉ ls.getD i []∨(i:Int) ∈ W.take j)→cnt (left G) (ls.getD i []) = 1→∀ y ∈ ls.getD i [],left G y = true→y ∈ q
 bud:q.length + cnt (left G) (belowI k) * (ls.length + 1) + (W.length - j) + 1 ≤ (k.toNat + 1) * (ls.length + 1)
 qlen:q.length ≤ r.length + j
end Go.Art
set_option maxRecDepth 4000
namespace Go.Art
open Go Go.Proofs Go.RowKit
attribute [local irreducible] Fit pt own ro vw mpc lpt vels rels mow lrc dfr
structure UG where
 G:Int→Option Value
 many:List Int
 q:List Int
 qv:Value
structure UF where
 i:Nat
 G:Int→Option Value
 g:Int→List Int
 many:List Int
abbrev TQ':TypeId:=207
abbrev TM':TypeId:=160
end Go.Art
set_option maxRecDepth 4000
namespace Go.Art
open Go Go.Proofs Go.RowKit
attribute [local irreducible] Fit pt own ro vw mpc lpt vels rels mow lrc dfr
noncomputable def knownR (k:Int) (ls:List (List Int)):List Int:=if stopE k ls = 0 then knownL k ls else []
end Go.Art
set_option maxRecDepth 4000
namespace Go.Art
open Go Go.Proofs Go.RowKit
attribute [local irreducible] Fit pt own ro vw mpc lpt vels rels mow lrc dfr
abbrev W64 (n:Int):Value:=.int .u64 n
def bitsL (k n:Int):List Int:=(belowI k).filter fun i=>decide (n / 2 ^ i.toNat % 2 = 1)
/-! ### Examples -/
def knb (ls:List (List Int)):Nat→Int→Bool
 | 0,_=>false
 | n + 1,s=>ls.any fun l=>l.contains s && l.all fun x=>x == s || knb ls n x
end Go.Art
set_option maxRecDepth 4000
namespace Go.Art
open Go Go.Proofs Go.RowKit
attribute [local irreducible] Fit pt own ro vw mpc lpt vels rels mow lrc dfr
abbrev Ws (l:List Int):List Value:=l.map W64
section
variable {P:Program} {E:Env P} {n:Sh} {X:Cx} {s:List K} {fr:Fr} {A A' B F:List Ch} {ops:Array Oper} {rest:List Oper} {d:Nat} {ty:TypeId} {pos:String} {after:Array Edge} {v:Value} {t t':TypeId} {x y:Operand} {c0:Code}
end
def setsL (k:Int) (zs:List Int):List (List Int):=(zs.map (bitsL k)).filter fun l=>decide (0 < l.length)
structure UnG where
 i:Nat
 o:Value
 hs:List Value
 ls:List (List Int)
end Go.Art
set_option maxRecDepth 4000
namespace Go.Art
open Go Go.Proofs Go.RowKit
attribute [local irreducible] Fit pt own ro vw mpc lpt vels rels mow lrc dfr
attribute [local irreducible] lmp lme mit
def KeysOf (f:Int→Option Value) (zs:List Int):Prop:=zs.Nodup∧∀ k,k ∈ zs ↔ (f k).isSome = true
noncomputable def largeR (k:Int) (ls:List (List Int)):List Int:=if stopE k ls = 0 then largeL k ls else []
end Go.Art
