/- Texts put together: V R W S M Y Env Ka Wg Bb Sz Oa Ob LaySort Srt Q Lt. Conditions: none. -/
import Derived.Test.YtmdpconhbmkokaaGreatWUa
set_option linter.unusedSimpArgs false
set_option linter.unusedVariables false
namespace Go.Art
open Go Go.RowKit
abbrev ptr (b:Nat):Value:=.pointer (some ⟨b,0,none⟩)
abbrev tup2 (a b:Value):Value:=.tuple #[a,b]
abbrev Is (l:List Int):List Value:=l.map I
theorem Is_get (l:List Int) (i:Nat) (h:i < l.length):(Is l)[i]? = some (I (l.getD i 0)):=by simp [List.getD_eq_getElem?_getD,h]
theorem Is_len (l:List Int):(Is l).length = l.length:=List.length_map ..
theorem Is_one (l:List Int):∀ c ∈ Is l,c.oneCell' = true:=by
 intro c hc;obtain ⟨_,_,rfl⟩:=List.mem_map.1 hc;rfl
theorem Is_set (l:List Int) (i:Nat) (x:Int):Is (l.set i x) = (Is l).set i (I x):=List.map_set ..
theorem Is_app (l m:List Int):Is (l ++ m) = Is l ++ Is m:=List.map_append ..
theorem Is_rep (n:Nat) (x:Int):List.replicate n (I x) = Is (List.replicate n x):=by simp
theorem Is_sub (l:List Int) (lo hi:Nat):((Is l).take hi).drop lo = Is ((l.take hi).drop lo):=by simp
theorem Sl.geti {w:World} {v:Value} {l:List Int} (h:Sl w v (Is l)) {i:Nat} (hi:i < l.length):w.cell? (addrAt v i) = some (I (l.getD i 0)):=h.cell (Is_get l i hi)
theorem take_succ' {α:Type} [Inhabited α] {l:List α} {i:Nat} (h:i < l.length) (z:α):l.take (i + 1) = l.take i ++ [l.getD i z]:=by
 rw [List.take_succ_eq_append_getElem h];simp [List.getD_eq_getElem?_getD,h]
theorem eq_of_getD {xs ys:List Int} (hl:xs.length = ys.length) (h:∀ j,j < xs.length→xs.getD j 0 = ys.getD j 0):xs = ys:=by
 refine List.ext_getElem hl fun i h1 h2=>?_
 have:=h i h1
 simpa [List.getD_eq_getElem?_getD,h1,h2] using this
theorem getD_set (l:List Int) (i j:Nat) (x:Int) (h:i < l.length):(l.set i x).getD j 0 = if i = j then x else l.getD j 0:=by
 simp only [List.getD_eq_getElem?_getD,List.getElem?_set]
 by_cases e:i = j
 ·subst e;simp [h]
 ·rw [if_neg e,if_neg e]
theorem mem_getD {l:List Int} {x:Int}:x ∈ l ↔ ∃ i,i < l.length∧l.getD i 0 = x:=by
 rw [List.mem_iff_getElem]
 constructor
 ·rintro ⟨i,h,rfl⟩;exact ⟨i,h,by simp [List.getD_eq_getElem?_getD,h]⟩
 ·rintro ⟨i,h,rfl⟩;exact ⟨i,h,by simp [List.getD_eq_getElem?_getD,h]⟩
theorem has_subi {F:List Ch} {v:Value} {l:List Int} (h:Has F (vw v (Is l))) {lo hi:Nat} (h1:lo ≤ hi) (h2:hi ≤ l.length):Has F (vw (slSub v lo hi) (Is ((l.take hi).drop lo))):=by
 rw [← Is_sub];exact has_sub h h1 (by simpa using h2)
theorem im_subi (e:TypeId) (v:Value) (l:List Int) {lo hi:Nat} (h1:lo ≤ hi) (h2:hi ≤ l.length):Im1 (own e v (Is l)) (own e (slSub v lo hi) (Is ((l.take hi).drop lo))):=by
 have:=im_sub e v (Is l) h1 (by simpa using h2)
 rwa [Is_sub] at this
theorem vw_len {A:List Ch} {v:Value} {xs:List Value} (h:Has A (vw v xs)) (w:World) (hw:Sat A w):xs.length ≤ 9223372036854775807:=(has_sl hw h).len
section
variable {P:Program} {E:Env P} {n:Sh} {X:Cx} {s:List K} {fr:Fr} {A A' B F:List Ch} {ops:Array Oper} {rest l:List Oper} {d:Nat} {o:Op} {ty:TypeId} {pos:String} {after:Array Edge} {v u:Value} {c0:Code} {e:Exit}
 {op:BinOp} {t t':TypeId} {x y:Operand} {m q:Int} {z:Value} {by_:Nat} {el:TypeId} {xs:List Value} {i:Int} {k1 k2:IntKind} {z1 z2:Operand}
theorem TC.leni {l:List Int} (k:l.length ≤ 9223372036854775807→TC E n X s c0 fr A) (hh:Has A (vw v (Is l)):=by exact hasA):TC E n X s c0 fr A:=TC.fact (fun w hw=>by simpa using vw_len hh w hw) k
theorem bx1 (k:∀ b,TO E n X s ops rest ((d,ptr b) :: fr) (pt b [v] t :: A)) (hx:ev fr x = some v:=by rfl) (hv:v.oneCell' = true:=by first | rfl | assumption) (hd:Nat.blt d n.n = true:=by rfl) :
  TO E n X s ops (⟨some d,.box t x,ty,pos,after,none⟩ :: rest) fr A:=bx (fun b=>by rw [oneCell_cells hv];exact k b) hx hd
theorem TC.one (k:v.oneCell' = true→TC E n X s c0 fr A) (hh:Has A (vw v xs):=by exact hasA):TC E n X s c0 fr A:=TC.fact (fun w hw=>by obtain ⟨a,c,rfl,_⟩:=hh.P w hw;rfl) k
theorem TO.one (k:v.oneCell' = true→TO E n X s ops rest fr A) (hh:Has A (vw v xs):=by exact hasA):TO E n X s ops rest fr A:=TO.fact (fun w hw=>by obtain ⟨a,c,rfl,_⟩:=hh.P w hw;rfl) k
theorem acw (k:TO E n X s ops rest ((d,I m) :: fr) A) (h:evOp E fr (.convert t t' x) = some (.int .i64 (IntKind.i64.wrap m)):=by rfl) (hb : -9223372036854775808 ≤ m∧m ≤ 9223372036854775807:=by omega) (hd:Nat.blt d n.n = true:=by rfl) :
  TO E n X s ops (⟨some d,.convert t t' x,ty,pos,after,none⟩ :: rest) fr A:=TO.val (fun _ _=>R_wrap (R_auto h) hb) k hd
section
variable {α:Type} {g:α→Value} {l:List α}
theorem lnm (k:TO E n X s ops rest ((d,I l.length) :: fr) A) (hx:ev fr x = some v:=by rfl) (hh:Has A (vw v (l.map g)):=by exact hasA) (ht:lk E.und t = some (.slice el):=by rfl) (hd:Nat.blt d n.n = true:=by rfl) :
  TO E n X s ops (⟨some d,.call ⟨.builtin .len,#[x],#[t]⟩,ty,pos,after,none⟩ :: rest) fr A:=ln (xs:=l.map g) (by simpa using k) hx hh ht hd
theorem qlnm (k:TQ E n X s ops rest ((d,I l.length) :: fr) A) (hx:ev fr x = some v:=by rfl) (hh:Has A (vw v (l.map g)):=by exact hasA) (ht:lk E.und t = some (.slice el):=by rfl) (hd:Nat.blt d n.n = true:=by rfl) :
  TQ E n X s ops (⟨some d,.call ⟨.builtin .len,#[x],#[t]⟩,ty,pos,after,none⟩ :: rest) fr A:=qln (xs:=l.map g) (by simpa using k) hx hh ht hd
theorem ixm (k:TO E n X s ops rest ((d,.pointer (some (addrAt v i.toNat))) :: fr) A) (hx:ev fr x = some v:=by rfl) (hy:ev fr y = some (.int k1 i):=by rfl) (hh:Has A (vw v (l.map g)):=by exact hasA) (hb:0 ≤ i∧i < l.length:=by omega)
  (ht:lk E.und t = some (.slice el):=by rfl) (he:lk E.inf el = some (z,1,by_):=by rfl) (hd:Nat.blt d n.n = true:=by rfl):TO E n X s ops (⟨some d,.indexAddr t x y,ty,pos,after,none⟩ :: rest) fr A:=ix k hx hy hh (by simpa using hb) ht he hd
theorem ixmn {i:Nat} (k:TO E n X s ops rest ((d,.pointer (some (addrAt v i))) :: fr) A) (hx:ev fr x = some v:=by rfl) (hy:ev fr y = some (.int k1 (i:Int)):=by rfl) (hh:Has A (vw v (l.map g)):=by exact hasA) (hb:i < l.length:=by omega)
  (ht:lk E.und t = some (.slice el):=by rfl) (he:lk E.inf el = some (z,1,by_):=by rfl) (hd:Nat.blt d n.n = true:=by rfl):TO E n X s ops (⟨some d,.indexAddr t x y,ty,pos,after,none⟩ :: rest) fr A:=ixn k hx hy hh (by simpa using hb) ht he hd
theorem qixmn {i:Nat} (k:TQ E n X s ops rest ((d,.pointer (some (addrAt v i))) :: fr) A) (hx:ev fr x = some v:=by rfl) (hy:ev fr y = some (.int k1 (i:Int)):=by rfl) (hh:Has A (vw v (l.map g)):=by exact hasA) (hb:i < l.length:=by omega)
  (ht:lk E.und t = some (.slice el):=by rfl) (he:lk E.inf el = some (z,1,by_):=by rfl) (hd:Nat.blt d n.n = true:=by rfl):TQ E n X s ops (⟨some d,.indexAddr t x y,ty,pos,after,none⟩ :: rest) fr A:=qixn k hx hy hh (by simpa using hb) ht he hd
theorem sclm {lo:Int} (k:TO E n X s ops rest ((d,slSub v lo.toNat l.length) :: fr) A) (hx:ev fr x = some v:=by rfl) (hl:ev fr z1 = some (.int k1 lo):=by rfl) (hs:Has A (vw v (l.map g)):=by exact hasA) (hb:0 ≤ lo∧lo ≤ l.length:=by omega)
  (ht:lk E.und t = some (.slice el):=by rfl) (he:lk E.inf el = some (z,1,by_):=by rfl) (hd:Nat.blt d n.n = true:=by rfl):TO E n X s ops (⟨some d,.slice t x (some z1) none none,ty,pos,after,none⟩ :: rest) fr A:=scl (xs:=l.map g) (by simpa using k) hx hl hs (by simpa using hb) ht he hd
theorem schm {hi:Int} (k:TO E n X s ops rest ((d,slSub v 0 hi.toNat) :: fr) A) (hx:ev fr x = some v:=by rfl) (hl:ev fr z1 = some (.int k1 hi):=by rfl) (hs:Has A (vw v (l.map g)):=by exact hasA) (hb:0 ≤ hi∧hi ≤ l.length:=by omega)
  (ht:lk E.und t = some (.slice el):=by rfl) (he:lk E.inf el = some (z,1,by_):=by rfl) (hd:Nat.blt d n.n = true:=by rfl):TO E n X s ops (⟨some d,.slice t x none (some z1) none,ty,pos,after,none⟩ :: rest) fr A:=sch k hx hl hs (by simpa using hb) ht he hd
end
theorem li {l:List Int} {j:Nat} {dt:TypeDesc} (k:TO E n X s ops rest ((d,I (l.getD j 0)) :: fr) A) (hx:ev fr x = some (.pointer (some (addrAt v j))):=by rfl) (hh:Has A (vw v (Is l)):=by exact hasA) (hj:j < l.length:=by omega)
  (ht:lk E.und t = some dt:=by rfl) (hg:aggB dt = false:=by rfl) (hd:Nat.blt d n.n = true:=by rfl):TO E n X s ops (⟨some d,.load t x,ty,pos,after,none⟩ :: rest) fr A:=le k hx hh (Is_get l j hj) ht hg hd
theorem lie {l:List Int} {j:Nat} {c:Int} {dt:TypeDesc} (he:l.getD j 0 = c) (k:TO E n X s ops rest ((d,I c) :: fr) A) (hx:ev fr x = some (.pointer (some (addrAt v j))):=by rfl) (hh:Has A (vw v (Is l)):=by exact hasA) (hj:j < l.length:=by omega)
  (ht:lk E.und t = some dt:=by rfl) (hg:aggB dt = false:=by rfl) (hd:Nat.blt d n.n = true:=by rfl):TO E n X s ops (⟨some d,.load t x,ty,pos,after,none⟩ :: rest) fr A:=li (l:=l) (by rw [he];exact k) hx hh hj ht hg hd
theorem qli {l:List Int} {j:Nat} {dt:TypeDesc} (k:TQ E n X s ops rest ((d,I (l.getD j 0)) :: fr) A) (hx:ev fr x = some (.pointer (some (addrAt v j))):=by rfl) (hh:Has A (vw v (Is l)):=by exact hasA) (hj:j < l.length:=by omega)
  (ht:lk E.und t = some dt:=by rfl) (hg:aggB dt = false:=by rfl) (hd:Nat.blt d n.n = true:=by rfl):TQ E n X s ops (⟨some d,.load t x,ty,pos,after,none⟩ :: rest) fr A:=qle k hx hh (Is_get l j hj) ht hg hd
theorem soi {l:List Int} {j:Nat} (k:TO E n X s ops rest fr (own el v (Is (l.set j m)) :: A')) (hx:ev fr x = some (.pointer (some (addrAt v j))):=by rfl) (hm:Tk (own el v (Is l)) A A':=by exact tkA) (hy:ev fr y = some (I m):=by rfl)
  (hj:j < l.length:=by omega) (ht:lk E.inf t = some (z,1,by_):=by rfl):TO E n X s ops (⟨none,.store t x y,ty,pos,after,none⟩ :: rest) fr A:=so k hx hm hy (by simpa using hj) (Is_set l j m) rfl ht
theorem api {l news:List Int} {e:TypeId} (k:∀ v',TO E n X s ops rest ((d,v') :: fr) (own e v' (Is (l ++ news)) :: A')) (hx:ev fr x = some v:=by rfl) (hy:ev fr y = some u:=by rfl) (hm:Tk (own e v (Is l)) A A':=by exact tkA) (hu:Has A' (vw u (Is news)):=by exact hasA)
  (hl:l.length + news.length ≤ 17592186044416:=by first | omega | (simp only [List.length_append,List.length_cons,List.length_nil];omega)) (ht:lk E.und t = some (.slice e):=by rfl) (he:lk E.inf e = some (z,1,by_):=by rfl) (hz:z.cells.size = 1:=by rfl) (hb:by_ ≤ 8:=by decide)
  (hd:Nat.blt d n.n = true:=by rfl):TO E n X s ops (⟨some d,.call ⟨.builtin .append,#[x,y],#[t,t]⟩,ty,pos,after,none⟩ :: rest) fr A:=
 ap (fun v'=>by have:=k v';rwa [Is_app] at this) hx hy hm hu (Is_one news) ht he hz (by rw [Is_len,Is_len];have:=Nat.mul_le_mul hl hb;omega) (by rw [Is_len,Is_len];omega) hd
theorem mki {e:TypeId} (k:∀ v',TO E n X s ops rest ((d,v') :: fr) (own e v' (Is (List.replicate m.toNat 0)) :: A)) (hx:ev fr x = some (.int k1 m):=by rfl) (hy:ev fr y = some (.int k1 m):=by rfl) (ht:lk E.und t = some (.slice e):=by rfl)
  (he:lk E.inf e = some (I 0,1,by_):=by rfl) (h0:0 ≤ m:=by omega) (hby:by_ * m.toNat ≤ 281474976710656:=by omega) (h63:m ≤ 9223372036854775807:=by omega) (hd:Nat.blt d n.n = true:=by rfl) :
  TO E n X s ops (⟨some d,.makeSlice t x y,ty,pos,after,none⟩ :: rest) fr A:=mk (fun v'=>by have:=k v';rwa [← Is_rep] at this) hx hy ht he rfl h0 hby h63 hd
theorem slii (l:List Int) {m:Nat} {parts:List (Nat × Operand)} {e:TypeId} (k:∀ v',TO E n X s ops rest ((d,v') :: fr) (own e v' (Is l) :: A)) (hp:parts = idxP 0 (parts.map (·.2)):=by rfl) (hv:evs fr (parts.map (·.2)) = some (Is l):=by rfl)
  (hk:(Is l).length = m:=by rfl) (hk0:Nat.blt 0 m = true:=by rfl) (hkm:Nat.ble m 16777216 = true:=by rfl) (ht:lk E.und t = some (.slice e):=by rfl) (he:lk E.inf e = some (z,1,by_):=by rfl) (hd:Nat.blt d n.n = true:=by rfl) :
  TO E n X s ops (⟨some d,.buildSlice t m parts.toArray,ty,pos,after,none⟩ :: rest) fr A:=sli k hp hv (Is_one l) hk hk0 hkm ht he hd
/-! words (uint64), as integers -/
theorem ucv {m:Int} (k:TO E n X s ops rest ((d,.int .u64 m) :: fr) A) (h:evOp E fr (.convert t t' x) = some (.int .u64 (IntKind.u64.wrap m)):=by rfl) (hb:0 ≤ m∧m < 18446744073709551616:=by omega) (hd:Nat.blt d n.n = true:=by rfl) :
  TO E n X s ops (⟨some d,.convert t t' x,ty,pos,after,none⟩ :: rest) fr A:=TO.val (fun _ _=>by
   have e:IntKind.u64.wrap m = m:=by rw [show IntKind.u64.wrap m = m % 18446744073709551616 by simp [IntKind.wrap,IntKind.bits,IntKind.signed]];omega
   have:=R_auto (P:=P) (n:=n) (w:=‹World›) (ty:=ty) h;rwa [e] at this) k hd
theorem R_shr {k k':IntKind} {m c:Int} {w:World} (hx:ev fr x = some (.int k m)) (hy:ev fr y = some (.int k' c)) (hc:0 ≤ c∧c ≤ k.bits) (hm:0 ≤ m):OpV P n fr (.binOp .shr t x y t') ty w (.int k (m / 2 ^ c.toNat)) w:=⟨fun a ha _ _ _ _=>by
 have hg:(eqGuard .shr t x y (.int k m) (.int k' c)).run P w = .ok () w:=rfl
 have h1:¬ c < 0:=by omega
 have h2:min c.toNat k.bits = c.toNat:=by omega
 have h3:m.fdiv (2 ^ c.toNat) = m / 2 ^ c.toNat:=Int.fdiv_eq_ediv_of_nonneg _ (Int.le_of_lt (Int.pow_pos (by decide)))
 simp only [execOp,ha.ev hx,ha.ev hy]
 simp only [hg,Sem.run_bind,Result.andThen_ok]
 show (Result.andThen ((binOp .shr t (.int k m) (.int k' c)).run P w) _) = _
 simp only [binOp,Op.shift,h1,if_false]
 show Result.ok (Next.value (.int k (m.fdiv (2 ^ (min c.toNat k.bits))))) w = _
 rw [h2,h3]⟩
theorem shr {k k':IntKind} {m c:Int} (kk:TO E n X s ops rest ((d,.int k (m / 2 ^ c.toNat)) :: fr) A) (hx:ev fr x = some (.int k m):=by rfl) (hy:ev fr y = some (.int k' c):=by rfl) (hc:0 ≤ c∧c ≤ k.bits:=by first | omega | (simp only [IntKind.bits];omega)) (hm:0 ≤ m:=by omega) (hd:Nat.blt d n.n = true:=by rfl) :
  TO E n X s ops (⟨some d,.binOp .shr t x y t',ty,pos,after,none⟩ :: rest) fr A:=TO.val (fun _ _=>R_shr hx hy hc hm) kk hd
theorem shr1 {k k':IntKind} {m:Int} (kk:TO E n X s ops rest ((d,.int k (m / 2)) :: fr) A) (hx:ev fr x = some (.int k m):=by rfl) (hy:ev fr y = some (.int k' 1):=by rfl) (hc:(1:Int) ≤ k.bits:=by decide) (hm:0 ≤ m:=by omega) (hd:Nat.blt d n.n = true:=by rfl) :
  TO E n X s ops (⟨some d,.binOp .shr t x y t',ty,pos,after,none⟩ :: rest) fr A:=shr (c:=1) (by simpa using kk) hx hy ⟨by decide,hc⟩ hm hd
theorem umod {k:IntKind} {m q:Int} (kk:TO E n X s ops rest ((d,.int k (m % q)) :: fr) A) (hx:ev fr x = some (.int k m):=by rfl) (hy:ev fr y = some (.int k q):=by rfl) (hb:0 ≤ m∧q ≠ 0:=by omega) (hd:Nat.blt d n.n = true:=by rfl) :
  TO E n X s ops (⟨some d,.binOp .rem t x y t',ty,pos,after,none⟩ :: rest) fr A:=TO.val (fun w _=>by
   have:=R_rem (P:=P) (n:=n) (w:=w) (t:=t) (t':=t') (ty:=ty) hx hy hb.2;rwa [IntWalk.rem_in _ _ hb.1] at this) kk hd
end
end Go.Art
namespace Go.Art
open Go Go.RowKit
def lrc (l:Nat) (rec:Loop) (st:LoopState) (pend:Option Code):Ch where
 wr:=fun x=>x = l
 rd:=fun _=>False
 bd:=fun _=>False
 P:=fun w=>RAt w l rec st pend
 loc:=fun h hb=>(hb l (.inl rfl)).trans h
 lt:=fun h hb=>by rcases hb with rfl | hb | hb;exact lt_of_heap h;exact hb.elim;exact hb.elim
def dfr (D:Nat):Ch where
 wr:=fun x=>x = D
 rd:=fun _=>False
 bd:=fun _=>False
 P:=fun w=>w.heap[D]? = some (.deferred (some []))
 loc:=fun h hb=>(hb D (.inl rfl)).trans h
 lt:=fun h hb=>by rcases hb with rfl | hb | hb;exact lt_of_heap h;exact hb.elim;exact hb.elim
instance (l:Nat) (rec:Loop) (st:LoopState) (pend:Option Code):NoB (lrc l rec st pend):=⟨fun _ h=>h⟩
instance (D:Nat):NoB (dfr D):=⟨fun _ h=>h⟩
def PRb (w0:World) (A0:List Ch) (R:Bool→List Ch→Prop) (b:Bool) (w':World):Prop:=∃ B,R b B∧Sat B w'∧Mv w0 A0 w' B∧∀ c ∈ B,∀ b,¬ c.bd b
structure Ty (P:Program) (l:Nat) (args:List Value) (pre A:List Ch) (R:Bool→List Ch→Prop):Prop where
 run:∀ w,Sat (pre ++ A) w→Yd P l args w (PRb w A R)
 lent:∀ c ∈ pre,∀ b,¬ c.wr b∧¬ c.rd b
theorem St.start {Q:Exit→Act→World→Prop} {pre A:List Ch} {w:World} (h:Sat (pre ++ A) w) (hp:∀ c ∈ pre,∀ b,¬ c.wr b∧¬ c.rd b):St ⟨Q,w,A⟩ (pre ++ A) w:=by
 refine ⟨h,rfl,rfl,rfl,Nat.le_refl _,fun _ _ _=>rfl,fun b hb=>?_,fun b hb=>?_⟩
 ·rcases wrs_app.1 hb with ⟨c,hc,h1⟩ | h1
  ·exact absurd h1 (hp c hc b).1
  ·exact .inl h1
 ·rcases rds_app.1 hb with ⟨c,hc,h1⟩ | h1
  ·exact absurd h1 (hp c hc b).2
  ·exact .inr (.inl h1)
section
variable {P:Program} {E:Env P} {n:Sh} {X:Cx} {s:List K} {fr:Fr} {A A' B F:List Ch} {ops:Array Oper} {rest:List Oper} {d:Nat} {ty:TypeId} {pos:String} {after:Array Edge}
 {l m:Nat} {rec:Loop} {body assign:Code} {pend:Option Code} {st:LoopState} {w0:World} {A0 pre D G:List Ch} {R:Bool→List Ch→Prop} {RR:Bool→World→Prop} {id:Nat}
theorem Ty.at {vs:List Value} {w:World} (hf:Ty P l vs pre B R) (hs:Fit A B F) (hp:∀ c ∈ pre,Has F c) (hw:St X A w):Yd P l vs w fun b w'=>∃ D,R b D∧St X (D ++ F) w':=by
 have h1:=hw.im hs
 refine (hf.run w (lend h1.sat hp)).mono fun v w' ⟨D,hR,hS,hM,hB⟩=>⟨D,hR,h1.step hM hS hB⟩
theorem cy {g:Operand} {args:List Operand} {ats:Array TypeId} {vs:List Value} (hy:Ty P l vs pre B R) (k:∀ b D,R b D→TO E n X s ops rest ((d,.bool b) :: fr) (D ++ F)) (hg:ev fr g = some (yv l):=by rfl) (hv:evs fr args = some vs:=by rfl)
  (hs:Fit A B F:=by exact fitA) (hp:∀ c ∈ pre,Has F c:=by (repeat (first | exact has0 | refine has1 hasA ?_));first | done | fail) (hd:Nat.blt d n.n = true:=by rfl):TO E n X s ops (⟨some d,.call ⟨.value g,args.toArray,ats⟩,ty,pos,after,none⟩ :: rest) fr A:=
 ⟨fun w hw=>SO_yield hg hv hd (hy.at hs hp hw) fun b w' ⟨D,hR,hS⟩=>(k b D hR).run w' hS⟩
theorem Ty.intro {ps:List Tmp} {vs:List Value} {Dm:Nat} (E:Env P) (hr:RecOk rec m fr ps assign body Dm) (hp:∀ c ∈ pre,∀ b,¬ c.wr b∧¬ c.rd b)
  (h:∀ w0,TC E ⟨m,[],some l⟩ ⟨begQ P l body (RB (PRb w0 (lrc l rec .ready pend :: A) R)),w0,lrc l rec .ready pend :: A⟩ [] assign (parFr ps vs fr) (pre ++ lrc l rec .ready pend :: A)) (hlen:vs.length = ps.length:=by rfl) (hps:ps.all (fun t=>Nat.blt t m) = true:=by rfl) :
  Ty P l vs pre (lrc l rec .ready pend :: A) R:=
 ⟨fun w hw=>Yd.intro E hr (hw.h (lrc l rec .ready pend) (by simp)) hlen hps ((h w).run w (St.start hw hp)),hp⟩
theorem St.lrc {w w':World} {st2:LoopState} {pend2:Option Code} (h:St X A w) (hm:Tk (lrc l rec st pend) A A') (hU:Upd w w' [l]) (hR:RAt w' l rec st2 pend2):St X (lrc l rec st2 pend2 :: A') w':=
 (h.im hm).set hU (fun b hb=>.inl (by show b = l;simpa using hb)) hR (fun b hb=>by rcases hb with h | h | h;exact .inl h;exact h.elim;exact h.elim) (fun _ h=>h)
theorem xbeg (k:TC E ⟨m,[],some l⟩ ⟨roundPost P l (RB RR),w0,A0⟩ [] body fr (lrc l rec .busy pend :: A')) (hm:Tk (lrc l rec .ready pend) A A':=by exact tkA):TX E ⟨m,[],some l⟩ ⟨begQ P l body (RB RR),w0,A0⟩ [] .normal fr A:=
 ⟨fun w hw=>SX_beg ((hw.im hm).mem (List.Mem.head _)) fun w' hU hR=>k.run w' ⟨(hw.lrc hm hU hR).sat,(hw.lrc hm hU hR).mv⟩⟩
theorem PRb.mk {Q:Exit→Act→World→Prop} {w:World} {b:Bool} (h:R b D) (hw:St ⟨Q,w0,A0⟩ A w) (hf:Fit A D G) (nb:∀ c ∈ D,∀ b,¬ c.bd b):PRb w0 A0 R b w:=by
 have h1:=hw.im (Im.trans hf (Im.drop _ _))
 exact ⟨D,h,h1.sat,h1.mv,nb⟩
theorem yn (h:R true D) (hm:Tk (lrc l rec st pend) A A':=by exact tkA) (hf:Fit (lrc l rec .ready none :: A') D G:=by exact fitA) (nb:∀ c ∈ D,∀ b,¬ c.bd b:=by (repeat (first | exact nb0 | refine nb1 ?_));first | done | fail) :
  TX E ⟨m,[],some l⟩ ⟨roundPost P l (RB (PRb w0 A0 R)),w0,A0⟩ [] .normal fr A:=⟨fun w hw=>SX_rend ((hw.im hm).mem (List.Mem.head _)) fun w' hU hR=>PRb.mk h (hw.lrc hm hU hR) hf nb⟩
theorem ye (h:R false D) (hm:Tk (lrc l rec st pend) A A':=by exact tkA) (hf:Fit (lrc l rec .done (some (.exit id)) :: A') D G:=by exact fitA) (nb:∀ c ∈ D,∀ b,¬ c.bd b:=by (repeat (first | exact nb0 | refine nb1 ?_));first | done | fail) :
  TX E ⟨m,[],some l⟩ ⟨roundPost P l (RB (PRb w0 A0 R)),w0,A0⟩ [] (.exit id) fr A:=⟨fun w hw=>SX_rexit ((hw.im hm).mem (List.Mem.head _)) fun w' hU hR=>PRb.mk h (hw.lrc hm hU hR) hf nb⟩
theorem xo (h:TX E n X [] (.exit id) fr A) (hp:popX id s = none:=by rfl):TC E n X s (.exit id) fr A:=⟨fun w hw=>SC_eo hp (h.run w hw)⟩
/-! ### The statement -/
def afterT {P:Program} (E:Env P) (n:Sh) (X:Cx) (s:List K) (fr:Fr) (A:List Ch):Option Code→Prop
 | none=>TX E n X s .normal fr A
 | some c=>TC E n X s c fr A
theorem TC.range {ds:List Deferred} {g:Operand} {f:FuncId} {cap:Array Value} {ps:List Tmp} (pre J:List Ch) (Aft:Nat→Loop→Nat→Option Code→List Ch→Prop)
  (hit:∀ rec l Dm,RecOk rec m fr ps assign body Dm→Tr P f (yv l :: cap.toList) pre (lrc l rec .ready none :: dfr Dm :: J) fun _ B=>∃ st pend B',B = lrc l rec st pend :: B'∧st ≠ LoopState.busy∧Aft l rec Dm pend B')
  (aft:∀ l rec Dm pend B',Aft l rec Dm pend B'→afterT E ⟨m,mark Dm :: ds,none⟩ X s fr (B' ++ F) pend) (hg:ev fr g = some (.func (.func f) #[] cap):=by rfl) (hs:Fit A J F:=by exact fitA)
  (hp:∀ c ∈ pre,Has F c:=by (repeat (first | exact has0 | refine has1 hasA ?_));first | done | fail):TC E ⟨m,ds,none⟩ X s (.rangeFunc g ps.toArray assign body) fr A:=⟨fun w hw=>by
 refine SC_range hg fun rec w1 hr hE hz hD hl=>?_
 have h0:=hw.im hs
 have h1:=h0.ext (hE)
 have hzz:w.heap.size < w1.heap.size:=by omega
 -- the two new blocks
 have h2:St X (lrc (w.heap.size + 1) rec .ready none :: dfr w.heap.size :: (J ++ F)) w1:=by
  have hnew:∀ b,fts [lrc (w.heap.size + 1) rec .ready none,dfr w.heap.size] b→w.heap.size ≤ b:=by
   rintro b ⟨c,hc,hb⟩
   simp only [List.mem_cons,List.not_mem_nil,or_false] at hc
   rcases hc with rfl | rfl
   ·rcases hb with hb | hb | hb
    ·have:b = w.heap.size + 1:=hb;omega
    ·exact hb.elim
    ·exact hb.elim
   ·rcases hb with hb | hb | hb
    ·have:b = w.heap.size:=hb;omega
    ·exact hb.elim
    ·exact hb.elim
  refine h0.step (A:=[]) (B:=[lrc (w.heap.size + 1) rec .ready none,dfr w.heap.size]) (Mv.upd hE (by simp) (fun b hb=>.inr (hnew b hb.ft)) (fun b hb=>.inr (.inr (hnew b hb.ft)))) ?_ ?_
  ·refine Sat.cons.2 ⟨hl,fun a ha=>?_,Sat.one hD⟩
   obtain rfl:a = dfr w.heap.size:=by simpa using ha
   constructor
   ·intro b hb hf
    have hb':b = w.heap.size + 1:=hb
    rcases hf with hf | hf | hf
    ·have:b = w.heap.size:=hf;omega
    ·exact hf.elim
    ·exact hf.elim
   ·intro b hb hf
    have hb':b = w.heap.size:=hb
    rcases hf with hf | hf | hf
    ·have:b = w.heap.size + 1:=hf;omega
    ·exact hf.elim
    ·exact hf.elim
  ·intro c hc b hb
   simp only [List.mem_cons,List.not_mem_nil,or_false] at hc
   rcases hc with rfl | rfl <;> exact hb
 refine ((hit rec (w.heap.size + 1) w.heap.size hr).at (F:=F) (by exact Im.refl _) hp h2).mono fun v w3 ⟨D,⟨st,pend,B',hB,hst,hA⟩,hS⟩=>?_
 subst hB
 refine ⟨st,pend,hst,hS.mem (List.Mem.head _),fun w4 hU=>?_⟩
 have h4:St X (B' ++ F) w4:=by
  have:=hS.step (A:=[lrc (w.heap.size + 1) rec st pend]) (B:=[]) (F:=B' ++ F) (w':=w4) (Mv.upd hU (fun b hb=>.inl (wrs_one.2 (List.mem_singleton.1 hb))) (fun b hb=>absurd hb wrs_nil) (fun b hb=>absurd hb rds_nil)) (Sat.nil _) (by simp)
  exact this
 have h5:=aft _ _ _ _ _ hA
 cases pend with
 | none=>exact TX.run h5 w4 h4
 | some c=>exact TC.run h5 w4 h4⟩
/-! ### Leaving with marks -/
variable {R':Value→List Ch→Prop} {fn:Func} {t t2:Nat} {v v1 v2:Value} {Dm nn:Nat}
theorem PR.mkM {Q:Exit→Act→World→Prop} {w w':World} (h:R' v D) (hw:St ⟨Q,w0,A0⟩ A w) (hm:Tk (dfr Dm) A A') (hf:Fit A' D G) (nb:∀ c ∈ D,∀ b,¬ c.bd b) (hU:Upd w w' [Dm]):PR w0 A0 R' v w':=by
 have h1:=hw.im hm
 have h2:St ⟨Q,w0,A0⟩ A' w':=h1.step (A:=[dfr Dm]) (B:=[]) (F:=A') (Mv.upd hU (fun b hb=>.inl (wrs_one.2 (List.mem_singleton.1 hb))) (fun b hb=>absurd hb wrs_nil) (fun b hb=>absurd hb rds_nil)) (Sat.nil _) (by simp)
 have h3:=h2.im (Im.trans hf (Im.drop _ _))
 exact ⟨D,h,h3.sat,h3.mv,nb⟩
theorem m1 (h:R' v D) (hr:fn.results = #[.tmp t]:=by rfl) (hv:get fr t = some v:=by rfl) (hm:Tk (dfr Dm) A A':=by exact tkA) (hf:Fit A' D G:=by exact fitA) (nb:∀ c ∈ D,∀ b,¬ c.bd b:=by (repeat (first | exact nb0 | refine nb1 ?_));first | done | fail) :
  TX E ⟨nn,[mark Dm],none⟩ ⟨bodyPostM (FF none) 0 P fn (RetP (PR w0 A0 R')),w0,A0⟩ [] .ret fr A:=⟨fun w hw=>
 SX_retM rfl ((hw.im hm).mem (List.Mem.head _)) fun a ha w' hU=>⟨v,res_t ha hr hv,PR.mkM h hw hm hf nb hU⟩⟩
theorem m2 (h:R' (.tuple #[v1,v2]) D) (hr:fn.results = #[.tmp t,.tmp t2]:=by rfl) (hv:get fr t = some v1:=by rfl) (hv2:get fr t2 = some v2:=by rfl) (hm:Tk (dfr Dm) A A':=by exact tkA) (hf:Fit A' D G:=by exact fitA) (nb:∀ c ∈ D,∀ b,¬ c.bd b:=by (repeat (first | exact nb0 | refine nb1 ?_));first | done | fail) :
  TX E ⟨nn,[mark Dm],none⟩ ⟨bodyPostM (FF none) 0 P fn (RetP (PR w0 A0 R')),w0,A0⟩ [] .ret fr A:=⟨fun w hw=>
 SX_retM rfl ((hw.im hm).mem (List.Mem.head _)) fun a ha w' hU=>⟨.tuple #[v1,v2],by rw [results_tmp2 hr a.tmps P w',ha.slot _ _ hv,ha.slot _ _ hv2],PR.mkM h hw hm hf nb hU⟩⟩
end
end Go.Art
namespace Go.Art
open Go Go.RowKit
def lpt (b:Nat) (cs:List Value) (T:TypeId):Ch where
 wr:=fun _=>False
 rd:=fun _=>False
 bd:=fun x=>x = b
 P:=fun w=>w.heap[b]? = some (.cells cs.toArray T (0,0))
 loc:=fun h hb=>(hb b (.inr (.inr rfl))).trans h
 lt:=fun h hb=>by rcases hb with hb | hb | rfl;exact hb.elim;exact hb.elim;exact lt_of_heap h
instance (b:Nat) (cs:List Value) (T:TypeId):Lent (lpt b cs T):=⟨fun _=>⟨fun h=>h,fun h=>h⟩⟩
theorem has_pt {F:List Ch} {b:Nat} {cs:List Value} {T:TypeId} (h:pt b cs T ∈ F):Has F (lpt b cs T):=⟨fun _ hw=>hw.h (pt b cs T) h,fun _ h=>h,fun _ h=>h,fun x hb=>⟨_,h,by rcases hb with hb | hb | hb;exact hb.elim;exact hb.elim;exact .inl hb⟩⟩
theorem has_lpt {F:List Ch} {b:Nat} {cs:List Value} {T:TypeId} (h:lpt b cs T ∈ F):Has F (lpt b cs T):=⟨fun _ hw=>hw.h _ h,fun _ h=>h,fun _ h=>h,fun _ hb=>⟨_,h,hb⟩⟩
abbrev nS:Value:=.slice none 0 0
def elsP (hs:List Value) (ls:List (List Int)) (w:World):Prop:=hs.length = ls.length∧∀ i,i < ls.length→Sl w (hs.getD i nS) (Is (ls.getD i []))
def elsF (hs:List Value) (ls:List (List Int)) (x:Nat):Prop:=∃ i,i < ls.length∧Is (ls.getD i []) ≠ []∧(hs.getD i nS).ownBlock = some x
theorem elsP.keep {w w':World} {hs:List Value} {ls:List (List Int)} (h:elsP hs ls w) (hb:∀ b,elsF hs ls b→w'.heap[b]? = w.heap[b]?):elsP hs ls w':=⟨h.1,fun i hi=>(h.2 i hi).of_block fun b hx=>hb b ⟨i,hi,hx⟩⟩
theorem elsP.lt {w:World} {hs:List Value} {ls:List (List Int)} (h:elsP hs ls w) {b:Nat} (hb:elsF hs ls b):b < w.heap.size:=by obtain ⟨i,hi,hx⟩:=hb;exact (h.2 i hi).blt hx
def vels (hs:List Value) (ls:List (List Int)):Ch where
 wr:=fun _=>False
 rd:=fun _=>False
 bd:=elsF hs ls
 P:=elsP hs ls
 loc:=fun h hb=>h.keep fun b h=>hb b (.inr (.inr h))
 lt:=fun h hb=>by rcases hb with hb | hb | hb;exact hb.elim;exact hb.elim;exact h.lt hb
def rels (hs:List Value) (ls:List (List Int)):Ch where
 wr:=fun _=>False
 rd:=elsF hs ls
 bd:=fun _=>False
 P:=elsP hs ls
 loc:=fun h hb=>h.keep fun b h=>hb b (.inr (.inl h))
 lt:=fun h hb=>by rcases hb with hb | hb | hb;exact hb.elim;exact h.lt hb;exact hb.elim
instance (hs:List Value) (ls:List (List Int)):Lent (vels hs ls):=⟨fun _=>⟨fun h=>h,fun h=>h⟩⟩
instance (hs:List Value) (ls:List (List Int)):NoB (rels hs ls):=⟨fun _ h=>h⟩
theorem getD_snoc {α:Type} (l:List α) (x z:α) (i:Nat):(l ++ [x]).getD i z = if i < l.length then l.getD i z else if i = l.length then x else z:=by
 simp only [List.getD_eq_getElem?_getD,List.getElem?_append]
 split
 ·rfl
 ·rename_i h
  by_cases e:i = l.length
  ·subst e;simp
  ·rw [if_neg e]
   have:¬ i - l.length = 0:=by omega
   cases hk:i - l.length with
   | zero=>exact absurd hk this
   | succ n=>simp
section
variable {P:Program} {E:Env P} {n:Sh} {X:Cx} {s:List K} {fr:Fr} {A A' B F:List Ch} {ops:Array Oper} {rest:List Oper} {d:Nat} {ty:TypeId} {pos:String} {after:Array Edge} {v z:Value} {t:TypeId} {x y:Operand} {c0:Code}
theorem ldl {b j:Nat} {cs:List Value} {T:TypeId} {dt:TypeDesc} (k:TO E n X s ops rest ((d,v) :: fr) A) (hx:ev fr x = some (.pointer (some ⟨b,j,none⟩)):=by rfl)
  (hm:lpt b cs T ∈ A:=by exact memA) (hj:cs[j]? = some v:=by rfl) (ht:lk E.und t = some dt:=by rfl) (hg:aggB dt = false:=by rfl) (hd:Nat.blt d n.n = true:=by rfl) :
  TO E n X s ops (⟨some d,.load t x,ty,pos,after,none⟩ :: rest) fr A:=TO.val (fun _ h=>R_load ht hg hx (blk_cell (h.h _ hm) (by simpa using hj))) k hd
theorem qldl {b j:Nat} {cs:List Value} {T:TypeId} {dt:TypeDesc} (k:TQ E n X s ops rest ((d,v) :: fr) A) (hx:ev fr x = some (.pointer (some ⟨b,j,none⟩)):=by rfl)
  (hm:lpt b cs T ∈ A:=by exact memA) (hj:cs[j]? = some v:=by rfl) (ht:lk E.und t = some dt:=by rfl) (hg:aggB dt = false:=by rfl) (hd:Nat.blt d n.n = true:=by rfl) :
  TQ E n X s ops (⟨some d,.load t x,ty,pos,after,none⟩ :: rest) fr A:=TQ.val (fun _ h=>R_load ht hg hx (blk_cell (h.h _ hm) (by simpa using hj))) k hd
theorem val_get {xs:List Value} {j:Nat} (h:j < xs.length):xs[j]? = some (xs.getD j nS):=by simp [List.getD_eq_getElem?_getD,h]
theorem lv {xs:List Value} {j:Nat} {dt:TypeDesc} (k:TO E n X s ops rest ((d,xs.getD j nS) :: fr) A) (hx:ev fr x = some (.pointer (some (addrAt v j))):=by rfl) (hh:Has A (vw v xs):=by exact hasA) (hj:j < xs.length:=by omega)
  (ht:lk E.und t = some dt:=by rfl) (hg:aggB dt = false:=by rfl) (hd:Nat.blt d n.n = true:=by rfl):TO E n X s ops (⟨some d,.load t x,ty,pos,after,none⟩ :: rest) fr A:=le k hx hh (val_get hj) ht hg hd
theorem qlv {xs:List Value} {j:Nat} {dt:TypeDesc} (k:TQ E n X s ops rest ((d,xs.getD j nS) :: fr) A) (hx:ev fr x = some (.pointer (some (addrAt v j))):=by rfl) (hh:Has A (vw v xs):=by exact hasA) (hj:j < xs.length:=by omega)
  (ht:lk E.und t = some dt:=by rfl) (hg:aggB dt = false:=by rfl) (hd:Nat.blt d n.n = true:=by rfl):TQ E n X s ops (⟨some d,.load t x,ty,pos,after,none⟩ :: rest) fr A:=qle k hx hh (val_get hj) ht hg hd
/-! ### Maps of integers -/
variable {b:Nat} {f:Int→Option Value} {k:Int} {kt et:TypeId} {sz by_:Nat}
theorem mm (k:∀ b,TO E n X s ops rest ((d,mp b) :: fr) (mpc b (fun _=>none) :: A)) (hd:Nat.blt d n.n = true:=by rfl):TO E n X s ops (⟨some d,.makeMap t none,ty,pos,after,none⟩ :: rest) fr A:=⟨fun w hw=>
 SO_makeMap hd fun w' hE hz hM=>(k _).run w' (hw.new hE hM (by rintro y (rfl | h | h);exact Nat.le_refl _;exact h.elim;exact h.elim) (fun _ h=>h))⟩
theorem mlS (kk:TO E n X s ops rest ((d,.tuple #[v,.bool true]) :: fr) A) (hf:f k = some v) (hx:ev fr x = some (mp b):=by rfl) (hy:ev fr y = some (I k):=by rfl) (hm:mpc b f ∈ A:=by exact memA)
  (ht:lk E.und t = some (.map kt et):=by rfl) (hk:lk E.und kt = some dI:=by rfl) (hd:Nat.blt d n.n = true:=by rfl):TO E n X s ops (⟨some d,.lookup t x y true,ty,pos,after,none⟩ :: rest) fr A:=
 TO.val (fun _ h=>R_lookS ht hk hx hy (h.h _ hm) hf) kk hd
theorem mlN (kk:TO E n X s ops rest ((d,.tuple #[z,.bool false]) :: fr) A) (hf:f k = none) (hx:ev fr x = some (mp b):=by rfl) (hy:ev fr y = some (I k):=by rfl) (hm:mpc b f ∈ A:=by exact memA)
  (ht:lk E.und t = some (.map kt et):=by rfl) (hk:lk E.und kt = some dI:=by rfl) (he:lk E.inf et = some (z,sz,by_):=by rfl) (hd:Nat.blt d n.n = true:=by rfl):TO E n X s ops (⟨some d,.lookup t x y true,ty,pos,after,none⟩ :: rest) fr A:=
 TO.val (fun _ h=>R_lookN ht hk he hx hy (h.h _ hm) hf) kk hd
theorem mu {u:Operand} (kk:TO E n X s ops rest fr (mpc b (updF f k v) :: A')) (hx:ev fr x = some (mp b):=by rfl) (hm:Tk (mpc b f) A A':=by exact tkA) (hy:ev fr y = some (I k):=by rfl) (hu:ev fr u = some v:=by rfl)
  (ht:lk E.und t = some (.map kt et):=by rfl) (hk:lk E.und kt = some dI:=by rfl):TO E n X s ops (⟨none,.mapUpdate t x y u,ty,pos,after,none⟩ :: rest) fr A:=⟨fun w hw=>by
 have h1:=hw.im hm
 exact SO_mapUpdate ht hk hx hy hu (h1.mem (List.Mem.head _)) fun w' hU hM=>kk.run w' (h1.set hU (fun x hb=>.inl (List.mem_singleton.1 hb)) hM (by rintro x (rfl | h | h);exact .inl rfl;exact h.elim;exact h.elim) (fun _ h=>h))⟩
end
end Go.Art
namespace Go.Art
open Go Go.RowKit
section
variable {F:Fence} {m:Nat} {P:Program} {md:Region.Mode} {ops:Array Oper} {Q:Exit→Act→World→Prop} {S:World→Prop}
def wpAnyS (F:Fence) (m:Nat) (P:Program) (md:Region.Mode) (ops:Array Oper) (Q:Exit→Act→World→Prop) (S:World→Prop):Nat→Array Bool→Act→World→Prop
 | 0,listed,a,w=>Region.ready md ops listed = []∧Q .normal a w
 | fuel + 1,listed,a,w=>(Region.ready md ops listed = []→Q .normal a w)∧∀ i ∈ Region.ready md ops listed,wpOpIn F m P ops Q i (fun a' w'=>S w'∧wpAnyS F m P md ops Q S fuel (listed.setIfInBounds i true) a' w') a w
theorem wpAnyS_sound:∀ {fuel:Nat} {listed:Array Bool} {a:Act} {w:World},wpAnyS F m P md ops Q S fuel listed a w→wpAnyIn F m P md ops Q fuel listed a w
 | 0,_,_,_,h=>h
 | _ + 1,_,_,_,h=>⟨h.1,fun i hi=>wpOpIn_mono (fun _ _ h'=>wpAnyS_sound h'.2) (h.2 i hi)⟩
theorem wpOpIn_own {j:Nat} {oj:Oper} {K:Act→World→Prop} {a:Act} {w:World} (hro:F.round = none) (hj:ops[j]? = some oj) (h:wpOpIn F m P ops Q j K a w) :
  wpOpIn F m P ops Q j (fun a' w'=>(∃ u df,a' = ({ a with defers:=df }:Act).put oj.dst u)∧K a' w') a w:=by
 unfold wpOpIn at *
 simp only [hj] at *
 split
 ·rename_i hw
  simp only [hw,if_true] at h
  refine ⟨h.1,?_⟩
  have h:=h.2
  generalize (oj.semAt F.round a.eval).run P w = r at *
  cases r with
  | ok x w'=>
   cases x <;> simp only [Oper.uponIn] at h ⊢
   case value u=>exact ⟨⟨u,a.defers,rfl⟩,h⟩
   case skip=>exact ⟨⟨undef,a.defers,rfl⟩,h⟩
   case defer d=>exact ⟨⟨undef,_,rfl⟩,h⟩
   case enter f args=>exact ⟨h.1,CallsIn.mono h.2 fun e w'' he=>by cases e <;> first | exact ⟨⟨_,a.defers,rfl⟩,he⟩ | exact he⟩
   case row row args=>exact ⟨h.1,RowsIn.mono h.2 fun u w'' he=>⟨⟨u,a.defers,rfl⟩,he⟩⟩
   case round l f tmps assign body=>exact ⟨h.1,RoundIn.mono h.2 fun e w'' he=>by cases e <;> first | exact ⟨⟨_,a.defers,rfl⟩,he⟩ | exact he⟩
  | halt x w'=>cases x <;> simp only [Oper.uponIn] at h ⊢;exact h
 ·rename_i hw
  simp only [hw] at h
  exact ⟨h.1,⟨_,a.defers,rfl⟩,h.2⟩
def YS (P:Program) (S:World→Prop) (o:Oper) (v:Value) (a:Act):Prop:=∀ w,S w→(execOp a.eval o).run P w = .ok (.value v) w∧o.about P w a.eval = none
theorem wpAnyS_take {i d:Nat} {o:Op} {ty:TypeId} {pos:String} {after:Array Edge} {v:Value} (hro:F.round = none) (hi:ops[i]? = some ⟨some d,o,ty,pos,after,none⟩) (hs:Region.noSelect ops = true) (hQ:∀ c a w,¬ Q (.panic c) a w) :
  ∀ (fuel:Nat) (listed:Array Bool) (a:Act) (w:World),Region.free md ops listed i = true→(Region.ready md ops listed).contains i = true→YS P S ⟨some d,o,ty,pos,after,none⟩ v a→S w →
   wpAnyS F m P md ops Q S fuel (listed.setIfInBounds i true) (a.put (some d) v) w→wpAnyS F m P md ops Q S (fuel + 1) listed a w:=by
 have hsel:=fun j oj cs b (h:ops[j]? = some oj)=>Region.noSelect_spec hs j oj cs b h
 have now:∀ (K:Act→World→Prop) (a:Act) (w:World),YS P S ⟨some d,o,ty,pos,after,none⟩ v a→S w→K (a.put (some d) v) w→wpOpIn F m P ops Q i K a w:=fun K a w hy hS h=>by
  unfold wpOpIn
  simp only [hi,Region.wanted,if_true,Oper.wpIn,hro,Oper.semAt_none,(hy w hS).1,Oper.uponIn]
  exact ⟨fun f hf=>(by rw [(hy w hS).2] at hf;cases hf),h⟩
 have gen:∀ (fuel:Nat) (listed:Array Bool) (a:Act) (w:World),(∀ j oj,ops[j]? = some oj→j ≠ i→listed.getD j true = false→(∀ e ∈ oj.after,Region.binds md e = true→e.on ≠ i)→Oper.apart ops ⟨some d,o,ty,pos,after,none⟩ oj = true) →
   i ∈ Region.ready md ops listed→YS P S ⟨some d,o,ty,pos,after,none⟩ v a→S w→wpAnyS F m P md ops Q S fuel (listed.setIfInBounds i true) (a.put (some d) v) w→wpAnyS F m P md ops Q S (fuel + 1) listed a w:=by
  intro fuel
  induction fuel with
  | zero=>
   intro listed a w _ hr hy hS H
   refine ⟨fun h=>(by rw [h] at hr;cases hr),fun j hj=>?_⟩
   by_cases hji:j = i
   ·subst hji;exact now _ a w hy hS ⟨hS,H⟩
   ·have:=ready_mono hj hji
    rw [H.1] at this
    cases this
  | succ fuel ih=>
   intro listed a w hfree hr hy hS H
   refine ⟨fun h=>(by rw [h] at hr;cases hr),fun j hj=>?_⟩
   by_cases hji:j = i
   ·subst hji;exact now _ a w hy hS ⟨hS,H⟩
   ·obtain ⟨hjun,oj,hoj,hall⟩:=mem_ready.1 hj
    have hnot:∀ e ∈ oj.after,Region.binds md e = true→e.on ≠ i:=fun e he hb heq=>by
     have h1:=hall e he hb
     have h0:=(mem_ready.1 hr).1
     rw [heq] at h1
     rcases Nat.lt_or_ge i listed.size with h' | h'
     ·simp [h'] at h0 h1;rw [h0] at h1;cases h1
     ·simp [Array.getElem?_eq_none h'] at h1
    have hap:=hfree j oj hoj hji hjun hnot
    obtain ⟨p1,p2,p3⟩:=Oper.apart_spec hap
    have hap2:Oper.apart ops ⟨some d,.assign (.const v),ty,pos,after,none⟩ oj = true:=by
     have q1:=p1 d rfl
     have q2:=p2 d rfl
     have q3:Oper.looksAt ops ⟨some d,.assign (.const v),ty,pos,after,none⟩ = []:=rfl
     simp only [Oper.apart,q3]
     have r1:(oj.looksAt ops).contains d = false:=by simpa using q1
     have r2:(oj.dst != some d) = true:=by simpa using q2
     rw [r1,r2]
     cases oj.dst <;> rfl
    have hyf:YieldsFenced P ops ⟨some d,.assign (.const v),ty,pos,after,none⟩ v a:=⟨.inl ⟨rfl,fun w=>rfl⟩,fun w=>rfl⟩
    have h2:=wpOpIn_put hro hoj hap2 (fun cs b e=>by cases e) (fun cs b=>hsel j oj cs b hoj) (fun c a w h=>absurd h (hQ c _ w)) hyf (H.2 j (ready_mono hj hji))
    have h3:=wpOpIn_own hro hoj h2
    refine wpOpIn_mono (fun a' w' h4=>?_) h3
    obtain ⟨⟨u,df,rfl⟩,_,hS',h5⟩:=h4
    have hy':YS P S ⟨some d,o,ty,pos,after,none⟩ v (({ a with defers:=df }:Act).put oj.dst u):=fun w hw=>by
     rw [execOp_put _ (fun cs b=>hsel i _ cs b hi) ({ a with defers:=df }:Act) oj.dst u p3,about_put _ w ({ a with defers:=df }:Act) oj.dst u p3]
     exact hy w hw
    have hfree':∀ k ok,ops[k]? = some ok→k ≠ i→(listed.setIfInBounds j true).getD k true = false→(∀ e ∈ ok.after,Region.binds md e = true→e.on ≠ i)→Oper.apart ops ⟨some d,o,ty,pos,after,none⟩ ok = true:=fun k ok hk hki hun hno=>by
     refine hfree k ok hk hki ?_ hno
     by_cases hjk:j = k
     ·subst hjk;exact hjun
     ·rw [getD_set_ne true hjk] at hun;exact hun
    refine ⟨hS',ih (listed.setIfInBounds j true) _ w' hfree' (ready_mono hr (Ne.symm hji)) hy' hS' ?_⟩
    rw [Array.setIfInBounds_comm _ _ hji]
    exact h5
 intro fuel listed a w hf hr hy hS H
 exact gen fuel listed a w (Region.free_spec hi hf) (by simpa using hr) hy hS H
end
def RQ (P:Program) (ops:Array Oper) (r:Option Nat) (Q:Exit→Act→World→Prop) (S:World→Prop) (fuel:Nat) (listed:Array Bool):Exit→Act→World→Prop:=fun e a w=>
 match e with
 | .normal=>S w∧wpAnyS (FF r) 0 P .any ops Q S fuel listed a w
 | e=>Q e a w
structure TS {P:Program} (E:Env P) (n:Sh) (X:Cx) (s:List K) (S:World→Prop) (ops:Array Oper) (fuel:Nat) (listed:Array Bool) (fr:Fr) (A:List Ch):Prop where
 run:∀ w,St X A w→S w→∀ a,Holds n a fr→wpAnyS (FF n.r) 0 P .any ops (NP P n.r X.Q s) S fuel listed a w
section
variable {P:Program} {E:Env P} {n:Sh} {X:Cx} {s:List K} {fr:Fr} {A A' B:List Ch} {ops:Array Oper} {d:Nat} {o:Op} {ty:TypeId} {pos:String} {after:Array Edge} {v:Value} {fuel:Nat} {listed:Array Bool} {S:World→Prop}
theorem rs {id:Nat} {l:List Oper} (S:World→Prop) (h:TS E n X s S l.toArray l.length (Array.replicate l.length false) fr A) (hS:∀ w,Sat A w→S w):TC E n X s (.region id l.toArray true) fr A:=
 ⟨fun w hw=>⟨fun a ha=>Code.wpIn_mono (fun (e:Exit) (a:Act) (w:World) (h:NP P n.r X.Q s e a w)=>h.2) (wpIn_region_any E.mixed (by
  have h1:=hw.ext (Upd.draw w)
  have:=wpAnyS_sound (h.run _ h1 (hS _ h1.sat) a ha)
  simpa using this))⟩⟩
theorem tk (i:Nat) (hv:∀ w,S w→OpV P n fr o ty w v w) (k:TS E n X s S ops fuel (listed.setIfInBounds i true) ((d,v) :: fr) A) (hi:ops[i]? = some ⟨some d,o,ty,pos,after,none⟩:=by rfl) (hs:Region.noSelect ops = true:=by kernel_rfl) (hf:Region.free .any ops listed i = true:=by kernel_rfl)
  (hr:(Region.ready .any ops listed).contains i = true:=by kernel_rfl) (hrd:n.r = none:=by rfl) (hd:Nat.blt d n.n = true:=by rfl) (hab:∀ w ρ,(⟨some d,o,ty,pos,after,none⟩ : Oper).about P w ρ = none:=by exact fun _ _=>rfl):TS E n X s S ops (fuel + 1) listed fr A:=
 ⟨fun w hw hS a ha=>wpAnyS_take (by simp [FF,hrd]) hi hs (fun c a w h=>h.1 c rfl) fuel listed a w hf hr (fun w' hw'=>⟨(hv w' hw').run a ha _ _ _ _,hab _ _⟩) hS (k.run w hw hS _ (ha.put hd v))⟩
theorem tka (i:Nat) (k:TS E n X s S ops fuel (listed.setIfInBounds i true) ((d,v) :: fr) A) (hi:ops[i]? = some ⟨some d,o,ty,pos,after,none⟩:=by rfl) (hv:evOp E fr o = some v:=by rfl) (hs:Region.noSelect ops = true:=by kernel_rfl) (hf:Region.free .any ops listed i = true:=by kernel_rfl)
  (hr:(Region.ready .any ops listed).contains i = true:=by kernel_rfl) (hrd:n.r = none:=by rfl) (hd:Nat.blt d n.n = true:=by rfl) (hab:∀ w ρ,(⟨some d,o,ty,pos,after,none⟩ : Oper).about P w ρ = none:=by exact fun _ _=>rfl):TS E n X s S ops (fuel + 1) listed fr A:=
 tk i (fun _ _=>R_auto hv) k hi hs hf hr hrd hd hab
theorem tkl (i:Nat) {t:TypeId} {x:Operand} {b j:Nat} {cs:List Value} {T:TypeId} {dt:TypeDesc} (hm:∀ w,S w→w.heap[b]? = some (.cells cs.toArray T (0,0))) (k:TS E n X s S ops fuel (listed.setIfInBounds i true) ((d,v) :: fr) A) (hi:ops[i]? = some ⟨some d,.load t x,ty,pos,after,none⟩:=by rfl) (hx:ev fr x = some (.pointer (some ⟨b,j,none⟩)):=by rfl)
  (hj:cs[j]? = some v:=by rfl) (ht:lk E.und t = some dt:=by rfl) (hg:aggB dt = false:=by rfl) (hs:Region.noSelect ops = true:=by kernel_rfl) (hf:Region.free .any ops listed i = true:=by kernel_rfl)
  (hr:(Region.ready .any ops listed).contains i = true:=by kernel_rfl) (hrd:n.r = none:=by rfl) (hd:Nat.blt d n.n = true:=by rfl):TS E n X s S ops (fuel + 1) listed fr A:=
 tk i (fun w hw=>R_load ht hg hx (blk_cell (hm w hw) (by simpa using hj))) k hi hs hf hr hrd hd
theorem tn (is:List Nat) (hr:Region.ready .any ops listed = is) (hne:is ≠ []) (k:∀ i ∈ is,∃ oi,ops[i]? = some oi∧TO E n ⟨RQ P ops n.r (NP P n.r X.Q s) S fuel (listed.setIfInBounds i true),X.w0,X.A0⟩ [] ops [oi] fr A):TS E n X s S ops (fuel + 1) listed fr A:=⟨fun w hw hS a ha=>by
 refine ⟨fun h=>absurd (hr ▸ h) hne,fun i hi0=>?_⟩
 rw [hr] at hi0
 obtain ⟨oi,hi,k⟩:=k i hi0
 have h:=(k.run w ⟨hw.sat,hw.mv⟩).run a ha
 simp only [den] at h
 unfold wpOpIn
 simp only [hi]
 unfold wpListIn at h
 split
 ·rename_i hwt
  simp only [hwt,if_true] at h
  unfold Oper.wpIn at *
  refine ⟨h.1,?_⟩
  have h:=h.2
  generalize (oi.semAt (FF n.r).round a.eval).run P w = r at *
  cases r with
  | ok x w'=>
   cases x <;> simp only [Oper.uponIn] at h ⊢
   case value u=>exact h
   case skip=>exact h
   case defer d=>exact h
   case enter f args=>exact ⟨h.1,CallsIn.mono h.2 fun e w'' he=>by cases e <;> first | exact he | (exact absurd rfl (he.1 _)) | exact he⟩
   case row row args=>exact ⟨h.1,RowsIn.mono h.2 fun u w'' he=>he⟩
   case round l f tmps assign body=>exact ⟨h.1,RoundIn.mono h.2 fun e w'' he=>by cases e <;> first | exact he | (exact absurd rfl (he.1 _)) | exact he⟩
  | halt x w'=>cases x <;> simp only [Oper.uponIn] at h ⊢;exact h
 ·rename_i hwt
  simp only [hwt] at h
  exact h⟩
theorem t1 (i:Nat) {oi:Oper} (k:TO E n ⟨RQ P ops n.r (NP P n.r X.Q s) S fuel (listed.setIfInBounds i true),X.w0,X.A0⟩ [] ops [oi] fr A) (hi:ops[i]? = some oi:=by rfl) (hr:Region.ready .any ops listed = [i]:=by kernel_rfl):TS E n X s S ops (fuel + 1) listed fr A:=
 tn [i] hr (by simp) fun j hj=>by (obtain rfl:j = i:=by simpa using hj);exact ⟨oi,hi,k⟩
theorem t2 (i j:Nat) {oi oj:Oper} (k:TO E n ⟨RQ P ops n.r (NP P n.r X.Q s) S fuel (listed.setIfInBounds i true),X.w0,X.A0⟩ [] ops [oi] fr A) (k2:TO E n ⟨RQ P ops n.r (NP P n.r X.Q s) S fuel (listed.setIfInBounds j true),X.w0,X.A0⟩ [] ops [oj] fr A) (hi:ops[i]? = some oi:=by rfl) (hj:ops[j]? = some oj:=by rfl)
  (hr:Region.ready .any ops listed = [i,j]:=by kernel_rfl):TS E n X s S ops (fuel + 1) listed fr A:=
 tn [i,j] hr (by simp) fun m hm=>by
  simp only [List.mem_cons,List.not_mem_nil,or_false] at hm
  rcases hm with rfl | rfl
  ·exact ⟨oi,hi,k⟩
  ·exact ⟨oj,hj,k2⟩
theorem te (hS:∀ w,Sat A w→S w) (k:TS E n X s S ops fuel listed fr A):TX E n ⟨RQ P ops n.r (NP P n.r X.Q s) S fuel listed,X.w0,X.A0⟩ [] .normal fr A:=
 ⟨fun w hw=>⟨fun a ha=>⟨hS w hw.sat,k.run w ⟨hw.sat,hw.mv⟩ (hS w hw.sat) a ha⟩⟩⟩
theorem t0 (k:TX E n X s .normal fr A) (hr:Region.ready .any ops listed = []:=by kernel_rfl):TS E n X s S ops fuel listed fr A:=⟨fun w hw _ a ha=>by
 have h:=(k.run w hw).run a ha
 cases fuel with
 | zero=>exact ⟨hr,fun c e=>(by cases e),h⟩
 | succ fuel=>exact ⟨fun _=>⟨fun c e=>(by cases e),h⟩,fun i hi=>(by rw [hr] at hi;cases hi)⟩⟩
end
end Go.Art
namespace Go.Art
open Go Go.RowKit
section
variable {P:Program} {E:Env P} {n:Sh} {Q0:Exit→Act→World→Prop} {s:List K} {fr:Fr} {w:World} {ops:Array Oper} {rest:List Oper} {d:Nat} {ty:TypeId} {pos:String} {after:Array Edge} {v z:Value} {x y:Operand} {t kt et:TypeId} {b sz by_:Nat} {f:Int→Option Value} {k:Int}
end
def setK {α:Type} (G:Int→α) (k:Int) (x:α):Int→α:=fun k'=>if k' = k then x else G k'
/-! ### Maps whose elements are structs of one own slice -/
def one (v:Value):Value:=.agg #[v]
def ones (G:Int→Option Value):Int→Option Value:=fun k=>(G k).map one
structure MowP (T:TypeId) (b:Nat) (G:Int→Option Value) (f:Int→List Int) (o:Option Int) (w:World):Prop where
 mp:MapF w b (ones G)
 own:∀ k v,some k ≠ o→G k = some v→OwnO w T v (Is (f k))
 off:∀ k v,G k = some v→v.ownBlock ≠ some b
 apart:∀ k v k' v' x,k ≠ k'→G k = some v→G k' = some v'→v.ownBlock = some x→v'.ownBlock ≠ some x
def mow (T:TypeId) (b:Nat) (G:Int→Option Value) (f:Int→List Int) (o:Option Int):Ch where
 wr:=fun x=>x = b∨∃ k v,some k ≠ o∧G k = some v∧v.ownBlock = some x
 rd:=fun _=>False
 bd:=fun _=>False
 P:=MowP T b G f o
 loc:=fun {w w'} h hb=>by
  refine ⟨?_,fun k v h1 h2=>(h.own k v h1 h2).keep fun x hx=>hb x (.inl (.inr ⟨k,v,h1,h2,hx⟩)),h.off,h.apart⟩
  obtain ⟨es,c,h1,h2⟩:=h.mp.ex
  exact ⟨es,c,(hb b (.inl (.inl rfl))).trans h1,h2⟩
 lt:=fun h hb=>by
  rcases hb with (rfl | ⟨k,v,h1,h2,h3⟩) | hb | hb
  ·exact h.mp.lt
  ·exact (h.own k v h1 h2).blt h3
  ·exact hb.elim
  ·exact hb.elim
instance (T:TypeId) (b:Nat) (G:Int→Option Value) (f:Int→List Int) (o:Option Int):NoB (mow T b G f o):=⟨fun _ h=>h⟩
section
variable {P:Program} {E:Env P} {n:Sh} {X:Cx} {s:List K} {fr:Fr} {A A' A2 B F:List Ch} {ops:Array Oper} {rest:List Oper} {d:Nat} {ty:TypeId} {pos:String} {after:Array Edge} {v z:Value} {t T:TypeId} {x y:Operand} {c0:Code}
 {b:Nat} {f:Int→Option Value} {g:Int→List Int} {G:Int→Option Value} {k:Int} {kt et:TypeId} {sz by_:Nat}
end
end Go.Art
namespace Go.Art
open Go Go.RowKit
section
variable {P:Program} {E:Env P} {n:Sh} {Q0:Exit→Act→World→Prop} {s:List K} {fr:Fr} {w:World} {ops:Array Oper} {rest:List Oper} {d:Nat} {ty:TypeId} {pos:String} {after:Array Edge} {v z:Value} {x y:Operand} {t:TypeId} {b j sz by_:Nat}
theorem aggB_t {dt:TypeDesc} (ht:lk E.und t = some dt) (hd:aggB dt = true):(isAgg t).run P w = .ok true w:=by
 simp only [isAgg,Sem.run_bind,run_underlying (P:=P) (E.un ht) w,Result.andThen_ok]
 cases dt <;> first | rfl | (simp [aggB] at hd)
theorem R_loadA {cs vs:List Value} {T:TypeId} {dt:TypeDesc} (ht:lk E.und t = some dt) (hg:aggB dt = true) (hi:lk E.inf t = some (z,sz,by_)) (hx:ev fr x = some (.pointer (some ⟨b,j,none⟩))) (hb:w.heap[b]? = some (.cells cs.toArray T (0,0))) (hv:(cs.drop j).take sz = vs) (hl:vs.length = sz) :
  OpV P n fr (.load t x) ty w (.agg vs.toArray) w:=⟨fun a ha _ _ _ _=>by
 obtain ⟨inf,h1,_,h2,_⟩:=E.info hi
 have h3:=run_loadCells_list (P:=P) w ⟨b,j,none⟩ vs (fun m u hm=>by
  rw [Addr.add_lit]
  refine blk_cell hb ?_
  rw [← hv,List.getElem?_take] at hm
  split at hm
  ·rw [List.getElem?_drop] at hm;simpa using hm
  ·cases hm)
 rw [hl] at h3
 simp only [execOp,ha.ev hx]
 simp [Instr.loadAt,Instr.sureAddr,loadVar,aggB_t (w:=w) ht hg,sizeOf,typeInfo,h1,h2,h3]⟩
theorem SO_storeA {cs vs:List Value} {T:TypeId} (hi:lk E.inf t = some (z,sz,by_)) (ha:ev fr x = some (.pointer (some ⟨b,j,none⟩))) (hx:ev fr y = some (.agg vs.toArray)) (hl:vs.length = sz) (h1:∀ v ∈ vs,v.oneCell' = true)
  (hb:w.heap[b]? = some (.cells cs.toArray T (0,0))) (hj:j + sz ≤ cs.length) (h:∀ w',Upd w w' [b]→w'.heap[b]? = some (.cells (cs.take j ++ vs ++ cs.drop (j + sz)).toArray T (0,0))→SO E n Q0 s ops rest fr w') :
  SO E n Q0 s ops (⟨none,.store t x y,ty,pos,after,none⟩ :: rest) fr w:=by
 obtain ⟨inf,h2,_,h3,_⟩:=E.info hi
 have hst:=run_storeCells_at P b j T vs 0 cs.toArray w hb (by simpa [hl] using hj) h1
 simp only [Nat.add_zero] at hst
 refine SO_u (w':=w.setRow b (cs.take j ++ vs ++ cs.drop (j + sz)).toArray) ⟨fun a ha' _ _ _ _=>?_⟩ (h _ (Upd.setRow w b _) (setRow_heap w b cs.toArray _ T _ hb))
 simp only [execOp,ha'.ev ha,ha'.ev hx]
 simp [Instr.storeAt,Instr.sureAddr,storeVar,sizeOf,typeInfo,h2,h3,Value.cells,hl,hst,Addr.add]
def setParts1 (pl:List (Nat × Nat)):List Value→List (Nat × Value)→Option (List Value)
 | cs,[]=>some cs
 | cs,(i,v) :: r=>match pl[i]? with
  | some (off,sz)=>bif Nat.beq sz 1 && Nat.ble (off + 1) cs.length then setParts1 pl (cs.set off v) r else none
  | none=>none
theorem setParts_one {pl:List (Nat × Nat)}:∀ {vs:List (Nat × Value)} {cs cs':List Value},(∀ p ∈ vs,p.2.oneCell' = true)→setParts1 pl cs vs = some cs'→setParts pl cs vs = some cs'
 | [],_,_,_,h=>h
 | (i,v) :: r,cs,cs',h1,h=>by
  simp only [setParts1] at h
  simp only [setParts]
  split at h
  ·rename_i off sz hp
   by_cases hc:(Nat.beq sz 1 && Nat.ble (off + 1) cs.length) = true
   ·rw [hc,cond_true] at h
    simp only [Bool.and_eq_true] at hc
    obtain rfl:=Nat.eq_of_beq_eq_true hc.1
    have h2:=Nat.le_of_ble_eq_true hc.2
    have hv:v.cells = #[v]:=oneCell_cells (h1 (i,v) (by simp))
    rw [hp]
    simp only [hv]
    have e:(Nat.beq (#[v]:Array Value).size 1 && Nat.ble (off + 1) cs.length) = true:=by simp [hc.2]
    rw [e,cond_true]
    have e2:cs.take off ++ (#[v]:Array Value).toList ++ cs.drop (off + 1) = cs.set off v:=by
     rw [List.set_eq_take_append_cons_drop,if_pos (by omega)];simp
    rw [e2]
    exact setParts_one (fun p hp=>h1 p (by simp [hp])) h
   ·have:(Nat.beq sz 1 && Nat.ble (off + 1) cs.length) = false:=by simpa only [Bool.not_eq_true] using hc
    rw [this,cond_false] at h;cases h
  ·cases h
theorem R_buildC {fs:List Field} {zs cs:List Value} {pl:List (Nat × Nat)} {parts:List (Nat × Operand)} {vs:List (Nat × Value)} (h1:∀ p ∈ vs,p.2.oneCell' = true) (ht:lk E.und t = some (.struct fs.toArray)) (he:lk E.inf t = some (.agg zs.toArray,sz,by_))
  (hpl:places E.inf fs = some pl) (hv:evps fr parts = some vs) (hs:setParts1 pl zs vs = some cs):OpV P n fr (.build t parts.toArray) ty w (.agg cs.toArray) w:=R_build ht he hpl hv (setParts_one h1 hs)
end
section
variable {P:Program} {E:Env P} {n:Sh} {X:Cx} {s:List K} {fr:Fr} {A A' B F:List Ch} {ops:Array Oper} {rest:List Oper} {d:Nat} {ty:TypeId} {pos:String} {after:Array Edge} {v z:Value} {t T:TypeId} {x y:Operand} {b j sz by_:Nat} {cs vs cs':List Value} {dt:TypeDesc} {fs:Array Field} {i:Nat} {f:Field}
theorem bdc {fl:List Field} {zs:List Value} {pl:List (Nat × Nat)} {parts:List (Nat × Operand)} {ps:List (Nat × Value)} (h1:∀ p ∈ ps,p.2.oneCell' = true) (k:TO E n X s ops rest ((d,.agg cs.toArray) :: fr) A) (hv:evps fr parts = some ps:=by rfl) (ht:lk E.und t = some (.struct fl.toArray):=by rfl) (he:lk E.inf t = some (.agg zs.toArray,sz,by_):=by rfl)
  (hpl:places E.inf fl = some pl:=by rfl) (hs:setParts1 pl zs ps = some cs:=by rfl) (hd:Nat.blt d n.n = true:=by rfl):TO E n X s ops (⟨some d,.build t parts.toArray,ty,pos,after,none⟩ :: rest) fr A:=TO.val (fun _ _=>R_buildC h1 ht he hpl hv hs) k hd
theorem lda (k:TO E n X s ops rest ((d,.agg vs.toArray) :: fr) A) (hx:ev fr x = some (.pointer (some ⟨b,j,none⟩)):=by rfl) (hm:pt b cs T ∈ A:=by exact memA) (ht:lk E.und t = some dt:=by rfl) (hg:aggB dt = true:=by rfl) (hi:lk E.inf t = some (z,sz,by_):=by rfl)
  (hv:(cs.drop j).take sz = vs:=by rfl) (hl:vs.length = sz:=by rfl) (hd:Nat.blt d n.n = true:=by rfl):TO E n X s ops (⟨some d,.load t x,ty,pos,after,none⟩ :: rest) fr A:=TO.val (fun _ h=>R_loadA ht hg hi hx (h.h (pt b cs T) hm) hv hl) k hd
theorem sra (k:TO E n X s ops rest fr (pt b cs' T :: A')) (ha:ev fr x = some (.pointer (some ⟨b,j,none⟩)):=by rfl) (hm:Tk (pt b cs T) A A':=by exact tkA) (hx:ev fr y = some (.agg vs.toArray):=by rfl) (hi:lk E.inf t = some (z,sz,by_):=by rfl) (hl:vs.length = sz:=by rfl)
  (h1:∀ v ∈ vs,v.oneCell' = true:=by simp;first | done | rfl | assumption) (hj:j + sz ≤ cs.length:=by decide) (hs:cs.take j ++ vs ++ cs.drop (j + sz) = cs':=by rfl):TO E n X s ops (⟨none,.store t x y,ty,pos,after,none⟩ :: rest) fr A:=⟨fun w hw=>by
 subst hs
 have h2:=hw.im hm
 refine SO_storeA hi ha hx hl h1 (h2.mem (List.Mem.head _)) hj fun w' hU hb=>k.run w' (h2.set hU (by simp [pt]) hb ?_ (by simp [pt]))
 rintro x (rfl | h | h);exact .inl rfl;exact h.elim;exact h.elim⟩
end
end Go.Art
namespace Go.Art
open Go Go.Proofs
def tyUnd:List (Nat × TypeDesc):=[(2,.int .i64),
 (3,.int .i64),
 (4,.bool),
 (5,.int .u8),
 (9,.string),
 (12,.int .u64),
 (13,.struct #[⟨ "msg", 9,0,false, "", "runtime", 0⟩,⟨ "addr", 12,1,false, "", "runtime", 16⟩]),
 (19,.struct #[⟨ "typ", 17,0,false, "", "internal/runtime/maps", 0⟩]),
 (21,.int .i32),
 (22,.slice 3),
 (23,.struct #[⟨ "Size", 3,0,false, "", "", 0⟩,⟨ "Symbol", 3,1,false, "", "", 8⟩,⟨ "K", 3,2,false, "", "", 16⟩,⟨ "Seed", 3,3,false, "", "", 24⟩,⟨ "Table", 22,4,false, "", "", 32⟩]),
 (24,.struct #[⟨ "Size", 3,0,false, "", "", 0⟩,⟨ "Symbol", 3,1,false, "", "", 8⟩,⟨ "K", 3,2,false, "", "", 16⟩,⟨ "Seed", 3,3,false, "", "", 24⟩,⟨ "Table", 22,4,false, "", "", 32⟩]),
 (25,.slice 5),
 (26,.struct #[⟨ "M", 24,0,false, "", "", 0⟩,⟨ "Data", 25,5,false, "", "", 56⟩,⟨ "Session", 3,6,false, "", "", 80⟩,⟨ "Budget", 3,7,false, "", "", 88⟩,⟨ "Timeout", 3,8,false, "", "", 96⟩]),
 (27,.struct #[⟨ "M", 24,0,false, "", "", 0⟩,⟨ "Data", 25,5,false, "", "", 56⟩,⟨ "Session", 3,6,false, "", "", 80⟩,⟨ "Budget", 3,7,false, "", "", 88⟩,⟨ "Timeout", 3,8,false, "", "", 96⟩]),
 (28,.slice 46),
 (33,.pointer 61),
 (34,.int .i64),
 (37,.pointer 73),
 (45,.struct #[⟨ "Ticks", 3,0,false, "", "", 0⟩,⟨ "B", 25,1,false, "", "", 8⟩]),
 (46,.struct #[⟨ "Ticks", 3,0,false, "", "", 0⟩,⟨ "B", 25,1,false, "", "", 8⟩]),
 (50,.struct #[⟨ "Kind", 3,0,false, "", "", 0⟩,⟨ "Session", 3,1,false, "", "", 8⟩,⟨ "Block", 3,2,false, "", "", 16⟩,⟨ "ID", 3,3,false, "", "", 24⟩,⟨ "Reason", 3,4,false, "", "", 32⟩,⟨ "Data", 25,5,false, "", "", 40⟩]),
 (51,.struct #[⟨ "Kind", 3,0,false, "", "", 0⟩,⟨ "Session", 3,1,false, "", "", 8⟩,⟨ "Block", 3,2,false, "", "", 16⟩,⟨ "ID", 3,3,false, "", "", 24⟩,⟨ "Reason", 3,4,false, "", "", 32⟩,⟨ "Data", 25,5,false, "", "", 40⟩]),
 (58,.slice 71),
 (59,.slice 4),
 (60,.struct #[⟨ "session", 3,0,false, "", "artesian/sender", 0⟩,⟨ "budget", 3,1,false, "", "artesian/sender", 8⟩,⟨ "timeout", 3,2,false, "", "artesian/sender", 16⟩,⟨ "open", 25,3,false, "", "artesian/sender", 24⟩,⟨ "parts", 58,4,false, "", "artesian/sender", 48⟩,⟨ "acked", 59,5,false, "", "artesian/sender", 72⟩,⟨ "last", 3,6,false, "", "artesian/sender", 96⟩,⟨ "silence", 3,7,false, "", "artesian/sender", 104⟩,⟨ "state", 3,8,false, "", "artesian/sender", 112⟩,⟨ "outbox", 57,9,false, "", "artesian/sender", 120⟩]),
 (61,.struct #[⟨ "session", 3,0,false, "", "artesian/sender", 0⟩,⟨ "budget", 3,1,false, "", "artesian/sender", 8⟩,⟨ "timeout", 3,2,false, "", "artesian/sender", 16⟩,⟨ "open", 25,3,false, "", "artesian/sender", 24⟩,⟨ "parts", 58,4,false, "", "artesian/sender", 48⟩,⟨ "acked", 59,5,false, "", "artesian/sender", 72⟩,⟨ "last", 3,6,false, "", "artesian/sender", 96⟩,⟨ "silence", 3,7,false, "", "artesian/sender", 104⟩,⟨ "state", 3,8,false, "", "artesian/sender", 112⟩,⟨ "outbox", 57,9,false, "", "artesian/sender", 120⟩]),
 (63,.slice 25),
 (66,.pointer 105),
 (70,.struct #[⟨ "source", 69,0,false, "", "artesian/sender", 0⟩,⟨ "sent", 3,1,false, "", "artesian/sender", 8⟩]),
 (71,.struct #[⟨ "source", 69,0,false, "", "artesian/sender", 0⟩,⟨ "sent", 3,1,false, "", "artesian/sender", 8⟩]),
 (72,.struct #[⟨ "M", 24,0,false, "", "", 0⟩,⟨ "Data", 25,5,false, "", "", 56⟩,⟨ "Session", 3,6,false, "", "", 80⟩,⟨ "Budget", 3,7,false, "", "", 88⟩,⟨ "Limit", 3,8,false, "", "", 96⟩,⟨ "At", 3,9,false, "", "", 104⟩,⟨ "Done", 59,10,false, "", "", 112⟩,⟨ "Sent", 22,11,false, "", "", 136⟩,⟨ "Last", 3,12,false, "", "", 160⟩,⟨ "Silence", 3,13,false, "", "", 168⟩]),
 (73,.struct #[⟨ "M", 24,0,false, "", "", 0⟩,⟨ "Data", 25,5,false, "", "", 56⟩,⟨ "Session", 3,6,false, "", "", 80⟩,⟨ "Budget", 3,7,false, "", "", 88⟩,⟨ "Limit", 3,8,false, "", "", 96⟩,⟨ "At", 3,9,false, "", "", 104⟩,⟨ "Done", 59,10,false, "", "", 112⟩,⟨ "Sent", 22,11,false, "", "", 136⟩,⟨ "Last", 3,12,false, "", "", 160⟩,⟨ "Silence", 3,13,false, "", "", 168⟩]),
 (84,.pointer 126),
 (87,.struct #[⟨ "width", 3,0,false, "", "artesian/manifest", 0⟩,⟨ "n", 3,1,false, "", "artesian/manifest", 8⟩]),
 (88,.struct #[⟨ "width", 3,0,false, "", "artesian/manifest", 0⟩,⟨ "n", 3,1,false, "", "artesian/manifest", 8⟩]),
 (89,.array 5 88),
 (90,.array 5 3),
 (98,.struct #[⟨ "Total", 3,0,false, "", "", 0⟩,⟨ "Cut", 22,1,false, "", "", 8⟩,⟨ "Other", 22,2,false, "", "", 32⟩]),
 (99,.struct #[⟨ "Total", 3,0,false, "", "", 0⟩,⟨ "Cut", 22,1,false, "", "", 8⟩,⟨ "Other", 22,2,false, "", "", 32⟩]),
 (100,.struct #[⟨ "a", 99,0,false, "", "artesian/encode", 0⟩,⟨ "k", 3,3,false, "", "artesian/encode", 56⟩,⟨ "seed", 3,4,false, "", "artesian/encode", 64⟩,⟨ "block", 3,5,false, "", "artesian/encode", 72⟩]),
 (101,.struct #[⟨ "a", 99,0,false, "", "artesian/encode", 0⟩,⟨ "k", 3,3,false, "", "artesian/encode", 56⟩,⟨ "seed", 3,4,false, "", "artesian/encode", 64⟩,⟨ "block", 3,5,false, "", "artesian/encode", 72⟩]),
 (104,.struct #[⟨ "sampler", 101,0,true, "", "artesian/encode", 0⟩,⟨ "symbols", 63,6,false, "", "artesian/encode", 80⟩]),
 (105,.struct #[⟨ "sampler", 101,0,true, "", "artesian/encode", 0⟩,⟨ "symbols", 63,6,false, "", "artesian/encode", 80⟩]),
 (123,.struct #[⟨ "b", 25,0,false, "", "artesian/octet", 0⟩,⟨ "made", 4,1,false, "", "artesian/octet", 24⟩]),
 (124,.struct #[⟨ "b", 25,0,false, "", "artesian/octet", 0⟩,⟨ "made", 4,1,false, "", "artesian/octet", 24⟩]),
 (125,.struct #[⟨ "cursor", 124,0,true, "", "artesian/octet", 0⟩,⟨ "most", 3,2,false, "", "artesian/octet", 32⟩,⟨ "err", 34,3,false, "", "artesian/octet", 40⟩]),
 (126,.struct #[⟨ "cursor", 124,0,true, "", "artesian/octet", 0⟩,⟨ "most", 3,2,false, "", "artesian/octet", 32⟩,⟨ "err", 34,3,false, "", "artesian/octet", 40⟩]),
 (129,.array 8 5),
 (132,.struct #[⟨ "k", 3,0,false, "", "artesian/block", 0⟩,⟨ "s", 3,1,false, "", "artesian/block", 8⟩]),
 (133,.struct #[⟨ "k", 3,0,false, "", "artesian/block", 0⟩,⟨ "s", 3,1,false, "", "artesian/block", 8⟩]),
 (143,.pointer 4),
 (145,.int .u64),
 (146,.pointer 71),
 (148,.pointer 180),
 (152,.pointer 183),
 (155,.struct #[⟨ "block", 4,0,false, "", "artesian/packet", 0⟩,⟨ "data", 4,1,false, "", "artesian/packet", 1⟩,⟨ "reason", 3,2,false, "", "artesian/packet", 8⟩]),
 (156,.struct #[⟨ "block", 4,0,false, "", "artesian/packet", 0⟩,⟨ "data", 4,1,false, "", "artesian/packet", 1⟩,⟨ "reason", 3,2,false, "", "artesian/packet", 8⟩]),
 (157,.array 6 156),
 (159,.pointer 3),
 (162,.struct #[⟨ "Err", 34,0,false, "", "", 0⟩,⟨ "At", 3,1,false, "", "", 8⟩]),
 (163,.struct #[⟨ "Err", 34,0,false, "", "", 0⟩,⟨ "At", 3,1,false, "", "", 8⟩]),
 (173,.slice 3),
 (175,.pointer 202),
 (177,.int .u64),
 (179,.struct #[⟨ "Symbols", 63,0,false, "", "", 0⟩,⟨ "Table", 22,1,false, "", "", 24⟩,⟨ "Seed", 3,2,false, "", "", 48⟩,⟨ "Block", 3,3,false, "", "", 56⟩]),
 (180,.struct #[⟨ "Symbols", 63,0,false, "", "", 0⟩,⟨ "Table", 22,1,false, "", "", 24⟩,⟨ "Seed", 3,2,false, "", "", 48⟩,⟨ "Block", 3,3,false, "", "", 56⟩]),
 (181,.pointer 218),
 (182,.struct #[⟨ "cursor", 124,0,true, "", "artesian/octet", 0⟩,⟨ "at", 3,2,false, "", "artesian/octet", 32⟩,⟨ "fault", 163,3,false, "", "artesian/octet", 40⟩]),
 (183,.struct #[⟨ "cursor", 124,0,true, "", "artesian/octet", 0⟩,⟨ "at", 3,2,false, "", "artesian/octet", 32⟩,⟨ "fault", 163,3,false, "", "artesian/octet", 40⟩]),
 (186,.int .u32),
 (189,.pointer 173),
 (190,.array 2 3),
 (195,.pointer 198),
 (197,.struct #[⟨ "state", 177,0,false, "", "artesian/lots", 0⟩]),
 (198,.struct #[⟨ "state", 177,0,false, "", "artesian/lots", 0⟩]),
 (201,.struct #[⟨ "source", 200,0,true, "", "artesian/lots", 0⟩,⟨ "used", 3,1,false, "", "artesian/lots", 16⟩,⟨ "broken", 4,2,false, "", "artesian/lots", 24⟩]),
 (202,.struct #[⟨ "source", 200,0,true, "", "artesian/lots", 0⟩,⟨ "used", 3,1,false, "", "artesian/lots", 16⟩,⟨ "broken", 4,2,false, "", "artesian/lots", 24⟩]),
 (214,.pointer 232),
 (217,.slice 181),
 (218,.array 256 186),
 (223,.map 3 3),
 (224,.map 3 3),
 (231,.struct #[⟨ "L", 22,0,false, "", "", 0⟩,⟨ "Seed", 4,1,false, "", "", 24⟩,⟨ "State", 177,2,false, "", "", 32⟩,⟨ "Told", 3,3,false, "", "", 40⟩,⟨ "Broke", 4,4,false, "", "", 48⟩]),
 (232,.struct #[⟨ "L", 22,0,false, "", "", 0⟩,⟨ "Seed", 4,1,false, "", "", 24⟩,⟨ "State", 177,2,false, "", "", 32⟩,⟨ "Told", 3,3,false, "", "", 40⟩,⟨ "Broke", 4,4,false, "", "", 48⟩]),
 (238,.int .i64),
 (247,.int .u64),
 (251,.pointer 247),
 (263,.pointer 5),
 (69,.func #[3] #[25,34] false),
 (200,.interface #[("artesian/lots.draw", 221)]),
 (1,.func #[] #[] false),
 (20,.interface #[]),
 (29,.func #[27,28] #[4] false),
 (30,.func #[] #[4] false),
 (31,.func #[24] #[24] false),
 (32,.func #[25] #[25] false),
 (36,.func #[24,25,3,3,3] #[33,34] false),
 (39,.func #[24,25,3,3,3] #[37,34] false),
 (40,.func #[24,24] #[4] false),
 (41,.func #[25,25] #[4] false),
 (42,.func #[22] #[] false),
 (43,.func #[25] #[] false),
 (44,.func #[33,37,46] #[4] false),
 (47,.func #[33,37] #[4] false),
 (48,.func #[] #[33] false),
 (49,.func #[33,51] #[4] false),
 (52,.func #[] #[3] false),
 (53,.func #[22] #[22] false),
 (55,.func #[24] #[25,34] false),
 (56,.func #[3,3,3] #[4] false),
 (62,.func #[24] #[3] false),
 (65,.func #[24,25,3] #[63,34] false),
 (68,.func #[63,22,3,3] #[66,34] false),
 (74,.func #[22,22] #[4] false),
 (75,.func #[46] #[3] false),
 (76,.func #[] #[63,34] false),
 (77,.func #[63,63] #[4] false),
 (78,.func #[25] #[63,34] false),
 (79,.func #[3,3] #[33] false),
 (80,.func #[] #[51] false),
 (81,.func #[33,51,51] #[4] false),
 (82,.func #[63,34,51] #[4] false),
 (83,.func #[24] #[34] false),
 (86,.func #[3] #[84,34] false),
 (91,.func #[] #[90] false),
 (92,.func #[3,3] #[34] false),
 (93,.func #[] #[25,34] false),
 (95,.func #[24,3] #[3,3,34] false),
 (96,.func #[25,3,3] #[63,34] false),
 (97,.func #[63] #[34] false),
 (103,.func #[22,3,3,3] #[101,34] false),
 (107,.func #[3] #[22,34] false),
 (108,.func #[63,22] #[25,34] false),
 (109,.func #[25,3,3] #[25] false),
 (110,.func #[3,3] #[3] false),
 (112,.func #[59,3] #[3,4] false),
 (113,.func #[51] #[] false),
 (114,.func #[3] #[] false),
 (115,.func #[] #[63] false),
 (117,.func #[25] #[51,34] false),
 (118,.func #[51] #[4] false),
 (119,.func #[] #[24] false),
 (120,.func #[51] #[25,34] false),
 (121,.func #[51,51] #[4] false),
 (122,.func #[22,3] #[4] false),
 (127,.func #[131] #[34] false),
 (128,.func #[3] #[4] false),
 (130,.func #[25] #[34] false),
 (131,.func #[] #[34] false),
 (134,.func #[138] #[] false),
 (135,.func #[138] #[] false),
 (136,.func #[25,3] #[135] false),
 (137,.func #[63,138] #[4] false),
 (138,.func #[25] #[4] false),
 (139,.func #[22,3] #[34] false),
 (141,.func #[22] #[99,34] false),
 (142,.func #[63,22,143] #[135] false),
 (144,.func #[25,25] #[34] false),
 (147,.func #[51] #[63] false),
 (150,.func #[63,22,3,3] #[148,34] false),
 (151,.func #[181,25] #[25,34] false),
 (153,.func #[25] #[152] false),
 (154,.func #[3] #[3] false),
 (158,.func #[] #[157] false),
 (160,.func #[4,3,159] #[] false),
 (161,.func #[3] #[25] false),
 (164,.func #[] #[163] false),
 (165,.func #[51] #[34] false),
 (167,.func #[25] #[3,25,4] false),
 (168,.func #[181,25] #[25] false),
 (169,.func #[22,128] #[4] false),
 (170,.func #[25,3] #[25,34] false),
 (171,.func #[63,138] #[3] false),
 (172,.func #[22] #[3] false),
 (174,.func #[99,3,175] #[22,34] false),
 (176,.func #[177,177,177] #[175] false),
 (178,.func #[25,25] #[] false),
 (184,.func #[3,4] #[25] false),
 (185,.func #[4,3] #[3] false),
 (187,.func #[181,25] #[186] false),
 (188,.func #[22,128] #[3] false),
 (191,.func #[99,3] #[34] false),
 (193,.func #[99,175] #[3,34] false),
 (194,.func #[175,3,3] #[22,34] false),
 (196,.func #[177] #[177] false),
 (199,.interface #[("artesian/lots.draw", 221)]),
 (203,.func #[22,3,3,3,3] #[22,34] false),
 (204,.func #[25,25] #[25,34] false),
 (205,.func #[217] #[181] true),
 (206,.func #[99] #[34] false),
 (207,.func #[3] #[3,34] false),
 (208,.func #[99,3,3] #[3,34] false),
 (209,.func #[211] #[22] false),
 (210,.func #[128] #[] false),
 (211,.func #[128] #[] false),
 (212,.func #[22] #[211] false),
 (213,.func #[99,3,214] #[22,34] false),
 (215,.func #[177,177,177] #[214] false),
 (216,.func #[186,3] #[186] false),
 (219,.func #[] #[218] false),
 (220,.func #[3] #[128] false),
 (221,.func #[3] #[3,4] false),
 (222,.func #[3,3] #[4] false),
 (225,.func #[3,3] #[] false),
 (226,.func #[22] #[4] false),
 (227,.func #[22,59,3] #[3] false),
 (228,.func #[22,3] #[3] false),
 (229,.func #[214,3,3] #[22,34] false),
 (230,.func #[99,3,3] #[3] false),
 (233,.func #[22,211] #[22] false),
 (234,.func #[22,3,3,3] #[] false),
 (235,.func #[145] #[3] false),
 (236,.func #[] #[177] false),
 (237,.func #[22,3,3] #[] false),
 (240,.func #[22,3,3] #[3,238] false),
 (241,.func #[22,3,3] #[4] false),
 (242,.func #[22,3,3,3] #[3] false),
 (243,.func #[22,3,3,3] #[3,4] false),
 (244,.func #[186] #[3] false),
 (245,.func #[177] #[3] false),
 (246,.func #[3] #[22] false),
 (248,.func #[3] #[145] false),
 (249,.func #[22,3,159] #[3] false),
 (250,.func #[22,3,3,3,159] #[3] false),
 (253,.func #[22,3,3,159] #[3,3] false),
 (254,.func #[] #[9] false),
 (262,.func #[272,272] #[4] false),
 (268,.func #[271] #[] false),
 (269,.func #[271] #[] false),
 (270,.func #[] #[269] false),
 (271,.func #[177] #[4] false)]
def tyInf:List (Nat × (Value × Nat × Nat)):=[(2,(.int .i64 0,1,8)),
 (3,(.int .i64 0,1,8)),
 (4,(.bool false,1,1)),
 (5,(.int .u8 0,1,1)),
 (9,(.string ByteArray.empty,1,16)),
 (12,(.int .u64 0,1,8)),
 (13,(.agg #[.string ByteArray.empty,.int .u64 0],2,24)),
 (19,(.agg #[.pointer none],1,8)),
 (21,(.int .i32 0,1,4)),
 (22,(.slice none 0 0,1,24)),
 (23,(.agg #[.int .i64 0,.int .i64 0,.int .i64 0,.int .i64 0,.slice none 0 0],5,56)),
 (24,(.agg #[.int .i64 0,.int .i64 0,.int .i64 0,.int .i64 0,.slice none 0 0],5,56)),
 (25,(.slice none 0 0,1,24)),
 (26,(.agg #[.int .i64 0,.int .i64 0,.int .i64 0,.int .i64 0,.slice none 0 0,.slice none 0 0,.int .i64 0,.int .i64 0,.int .i64 0],9,104)),
 (27,(.agg #[.int .i64 0,.int .i64 0,.int .i64 0,.int .i64 0,.slice none 0 0,.slice none 0 0,.int .i64 0,.int .i64 0,.int .i64 0],9,104)),
 (28,(.slice none 0 0,1,24)),
 (33,(.pointer none,1,8)),
 (34,(.int .i64 0,1,8)),
 (37,(.pointer none,1,8)),
 (45,(.agg #[.int .i64 0,.slice none 0 0],2,32)),
 (46,(.agg #[.int .i64 0,.slice none 0 0],2,32)),
 (50,(.agg #[.int .i64 0,.int .i64 0,.int .i64 0,.int .i64 0,.int .i64 0,.slice none 0 0],6,64)),
 (51,(.agg #[.int .i64 0,.int .i64 0,.int .i64 0,.int .i64 0,.int .i64 0,.slice none 0 0],6,64)),
 (58,(.slice none 0 0,1,24)),
 (59,(.slice none 0 0,1,24)),
 (60,(.agg #[.int .i64 0,.int .i64 0,.int .i64 0,.slice none 0 0,.slice none 0 0,.slice none 0 0,.int .i64 0,.int .i64 0,.int .i64 0,.chan none],10,128)),
 (61,(.agg #[.int .i64 0,.int .i64 0,.int .i64 0,.slice none 0 0,.slice none 0 0,.slice none 0 0,.int .i64 0,.int .i64 0,.int .i64 0,.chan none],10,128)),
 (63,(.slice none 0 0,1,24)),
 (66,(.pointer none,1,8)),
 (70,(.agg #[.nilFunc,.int .i64 0],2,16)),
 (71,(.agg #[.nilFunc,.int .i64 0],2,16)),
 (72,(.agg #[.int .i64 0,.int .i64 0,.int .i64 0,.int .i64 0,.slice none 0 0,.slice none 0 0,.int .i64 0,.int .i64 0,.int .i64 0,.int .i64 0,.slice none 0 0,.slice none 0 0,.int .i64 0,.int .i64 0],14,176)),
 (73,(.agg #[.int .i64 0,.int .i64 0,.int .i64 0,.int .i64 0,.slice none 0 0,.slice none 0 0,.int .i64 0,.int .i64 0,.int .i64 0,.int .i64 0,.slice none 0 0,.slice none 0 0,.int .i64 0,.int .i64 0],14,176)),
 (84,(.pointer none,1,8)),
 (87,(.agg #[.int .i64 0,.int .i64 0],2,16)),
 (88,(.agg #[.int .i64 0,.int .i64 0],2,16)),
 (89,(.agg #[.int .i64 0,.int .i64 0,.int .i64 0,.int .i64 0,.int .i64 0,.int .i64 0,.int .i64 0,.int .i64 0,.int .i64 0,.int .i64 0],10,80)),
 (90,(.agg #[.int .i64 0,.int .i64 0,.int .i64 0,.int .i64 0,.int .i64 0],5,40)),
 (98,(.agg #[.int .i64 0,.slice none 0 0,.slice none 0 0],3,56)),
 (99,(.agg #[.int .i64 0,.slice none 0 0,.slice none 0 0],3,56)),
 (100,(.agg #[.int .i64 0,.slice none 0 0,.slice none 0 0,.int .i64 0,.int .i64 0,.int .i64 0],6,80)),
 (101,(.agg #[.int .i64 0,.slice none 0 0,.slice none 0 0,.int .i64 0,.int .i64 0,.int .i64 0],6,80)),
 (104,(.agg #[.int .i64 0,.slice none 0 0,.slice none 0 0,.int .i64 0,.int .i64 0,.int .i64 0,.slice none 0 0],7,104)),
 (105,(.agg #[.int .i64 0,.slice none 0 0,.slice none 0 0,.int .i64 0,.int .i64 0,.int .i64 0,.slice none 0 0],7,104)),
 (123,(.agg #[.slice none 0 0,.bool false],2,32)),
 (124,(.agg #[.slice none 0 0,.bool false],2,32)),
 (125,(.agg #[.slice none 0 0,.bool false,.int .i64 0,.int .i64 0],4,48)),
 (126,(.agg #[.slice none 0 0,.bool false,.int .i64 0,.int .i64 0],4,48)),
 (129,(.agg #[.int .u8 0,.int .u8 0,.int .u8 0,.int .u8 0,.int .u8 0,.int .u8 0,.int .u8 0,.int .u8 0],8,8)),
 (132,(.agg #[.int .i64 0,.int .i64 0],2,16)),
 (133,(.agg #[.int .i64 0,.int .i64 0],2,16)),
 (143,(.pointer none,1,8)),
 (145,(.int .u64 0,1,8)),
 (146,(.pointer none,1,8)),
 (148,(.pointer none,1,8)),
 (152,(.pointer none,1,8)),
 (155,(.agg #[.bool false,.bool false,.int .i64 0],3,16)),
 (156,(.agg #[.bool false,.bool false,.int .i64 0],3,16)),
 (157,(.agg #[.bool false,.bool false,.int .i64 0,.bool false,.bool false,.int .i64 0,.bool false,.bool false,.int .i64 0,.bool false,.bool false,.int .i64 0,.bool false,.bool false,.int .i64 0,.bool false,.bool false,.int .i64 0],18,96)),
 (159,(.pointer none,1,8)),
 (162,(.agg #[.int .i64 0,.int .i64 0],2,16)),
 (163,(.agg #[.int .i64 0,.int .i64 0],2,16)),
 (173,(.slice none 0 0,1,24)),
 (175,(.pointer none,1,8)),
 (177,(.int .u64 0,1,8)),
 (179,(.agg #[.slice none 0 0,.slice none 0 0,.int .i64 0,.int .i64 0],4,64)),
 (180,(.agg #[.slice none 0 0,.slice none 0 0,.int .i64 0,.int .i64 0],4,64)),
 (181,(.pointer none,1,8)),
 (182,(.agg #[.slice none 0 0,.bool false,.int .i64 0,.int .i64 0,.int .i64 0],5,56)),
 (183,(.agg #[.slice none 0 0,.bool false,.int .i64 0,.int .i64 0,.int .i64 0],5,56)),
 (186,(.int .u32 0,1,4)),
 (189,(.pointer none,1,8)),
 (190,(.agg #[.int .i64 0,.int .i64 0],2,16)),
 (195,(.pointer none,1,8)),
 (197,(.agg #[.int .u64 0],1,8)),
 (198,(.agg #[.int .u64 0],1,8)),
 (201,(.agg #[.nilIface,.int .i64 0,.bool false],3,32)),
 (202,(.agg #[.nilIface,.int .i64 0,.bool false],3,32)),
 (214,(.pointer none,1,8)),
 (217,(.slice none 0 0,1,24)),
 (218,(.agg (Array.replicate 256 (.int .u32 0)),256,1024)),
 (223,(.map none,1,8)),
 (224,(.map none,1,8)),
 (231,(.agg #[.slice none 0 0,.bool false,.int .u64 0,.int .i64 0,.bool false],5,56)),
 (232,(.agg #[.slice none 0 0,.bool false,.int .u64 0,.int .i64 0,.bool false],5,56)),
 (238,(.int .i64 0,1,8)),
 (247,(.int .u64 0,1,8)),
 (251,(.pointer none,1,8)),
 (263,(.pointer none,1,8)),
 (69,(.nilFunc,1,8)),
 (200,(.nilIface,1,16)),
 (1,(.nilFunc,1,8)),
 (20,(.nilIface,1,16)),
 (29,(.nilFunc,1,8)),
 (30,(.nilFunc,1,8)),
 (31,(.nilFunc,1,8)),
 (32,(.nilFunc,1,8)),
 (36,(.nilFunc,1,8)),
 (39,(.nilFunc,1,8)),
 (40,(.nilFunc,1,8)),
 (41,(.nilFunc,1,8)),
 (42,(.nilFunc,1,8)),
 (43,(.nilFunc,1,8)),
 (44,(.nilFunc,1,8)),
 (47,(.nilFunc,1,8)),
 (48,(.nilFunc,1,8)),
 (49,(.nilFunc,1,8)),
 (52,(.nilFunc,1,8)),
 (53,(.nilFunc,1,8)),
 (55,(.nilFunc,1,8)),
 (56,(.nilFunc,1,8)),
 (62,(.nilFunc,1,8)),
 (65,(.nilFunc,1,8)),
 (68,(.nilFunc,1,8)),
 (74,(.nilFunc,1,8)),
 (75,(.nilFunc,1,8)),
 (76,(.nilFunc,1,8)),
 (77,(.nilFunc,1,8)),
 (78,(.nilFunc,1,8)),
 (79,(.nilFunc,1,8)),
 (80,(.nilFunc,1,8)),
 (81,(.nilFunc,1,8)),
 (82,(.nilFunc,1,8)),
 (83,(.nilFunc,1,8)),
 (86,(.nilFunc,1,8)),
 (91,(.nilFunc,1,8)),
 (92,(.nilFunc,1,8)),
 (93,(.nilFunc,1,8)),
 (95,(.nilFunc,1,8)),
 (96,(.nilFunc,1,8)),
 (97,(.nilFunc,1,8)),
 (103,(.nilFunc,1,8)),
 (107,(.nilFunc,1,8)),
 (108,(.nilFunc,1,8)),
 (109,(.nilFunc,1,8)),
 (110,(.nilFunc,1,8)),
 (112,(.nilFunc,1,8)),
 (113,(.nilFunc,1,8)),
 (114,(.nilFunc,1,8)),
 (115,(.nilFunc,1,8)),
 (117,(.nilFunc,1,8)),
 (118,(.nilFunc,1,8)),
 (119,(.nilFunc,1,8)),
 (120,(.nilFunc,1,8)),
 (121,(.nilFunc,1,8)),
 (122,(.nilFunc,1,8)),
 (127,(.nilFunc,1,8)),
 (128,(.nilFunc,1,8)),
 (130,(.nilFunc,1,8)),
 (131,(.nilFunc,1,8)),
 (134,(.nilFunc,1,8)),
 (135,(.nilFunc,1,8)),
 (136,(.nilFunc,1,8)),
 (137,(.nilFunc,1,8)),
 (138,(.nilFunc,1,8)),
 (139,(.nilFunc,1,8)),
 (141,(.nilFunc,1,8)),
 (142,(.nilFunc,1,8)),
 (144,(.nilFunc,1,8)),
 (147,(.nilFunc,1,8)),
 (150,(.nilFunc,1,8)),
 (151,(.nilFunc,1,8)),
 (153,(.nilFunc,1,8)),
 (154,(.nilFunc,1,8)),
 (158,(.nilFunc,1,8)),
 (160,(.nilFunc,1,8)),
 (161,(.nilFunc,1,8)),
 (164,(.nilFunc,1,8)),
 (165,(.nilFunc,1,8)),
 (167,(.nilFunc,1,8)),
 (168,(.nilFunc,1,8)),
 (169,(.nilFunc,1,8)),
 (170,(.nilFunc,1,8)),
 (171,(.nilFunc,1,8)),
 (172,(.nilFunc,1,8)),
 (174,(.nilFunc,1,8)),
 (176,(.nilFunc,1,8)),
 (178,(.nilFunc,1,8)),
 (184,(.nilFunc,1,8)),
 (185,(.nilFunc,1,8)),
 (187,(.nilFunc,1,8)),
 (188,(.nilFunc,1,8)),
 (191,(.nilFunc,1,8)),
 (193,(.nilFunc,1,8)),
 (194,(.nilFunc,1,8)),
 (196,(.nilFunc,1,8)),
 (199,(.nilIface,1,16)),
 (203,(.nilFunc,1,8)),
 (204,(.nilFunc,1,8)),
 (205,(.nilFunc,1,8)),
 (206,(.nilFunc,1,8)),
 (207,(.nilFunc,1,8)),
 (208,(.nilFunc,1,8)),
 (209,(.nilFunc,1,8)),
 (210,(.nilFunc,1,8)),
 (211,(.nilFunc,1,8)),
 (212,(.nilFunc,1,8)),
 (213,(.nilFunc,1,8)),
 (215,(.nilFunc,1,8)),
 (216,(.nilFunc,1,8)),
 (219,(.nilFunc,1,8)),
 (220,(.nilFunc,1,8)),
 (221,(.nilFunc,1,8)),
 (222,(.nilFunc,1,8)),
 (225,(.nilFunc,1,8)),
 (226,(.nilFunc,1,8)),
 (227,(.nilFunc,1,8)),
 (228,(.nilFunc,1,8)),
 (229,(.nilFunc,1,8)),
 (230,(.nilFunc,1,8)),
 (233,(.nilFunc,1,8)),
 (234,(.nilFunc,1,8)),
 (235,(.nilFunc,1,8)),
 (236,(.nilFunc,1,8)),
 (237,(.nilFunc,1,8)),
 (240,(.nilFunc,1,8)),
 (241,(.nilFunc,1,8)),
 (242,(.nilFunc,1,8)),
 (243,(.nilFunc,1,8)),
 (244,(.nilFunc,1,8)),
 (245,(.nilFunc,1,8)),
 (246,(.nilFunc,1,8)),
 (248,(.nilFunc,1,8)),
 (249,(.nilFunc,1,8)),
 (250,(.nilFunc,1,8)),
 (253,(.nilFunc,1,8)),
 (254,(.nilFunc,1,8)),
 (262,(.nilFunc,1,8)),
 (268,(.nilFunc,1,8)),
 (269,(.nilFunc,1,8)),
 (270,(.nilFunc,1,8)),
 (271,(.nilFunc,1,8))]
theorem tyUnd_ok:tyUnd.map (fun p=>Tryz.prog.underlying p.1) = tyUnd.map (fun p=>some p.2):=by kernel_rfl
theorem tyInf_ok:tyInf.map (fun p=>(Tryz.prog.info? p.1).map (fun i=>(i.zero,i.size,i.bytes))) = tyInf.map (fun p=>some (some p.2.1,p.2.2.1,p.2.2.2)):=by kernel_rfl
theorem follows_mixed:Tryz.prog.follows .mixedOrders = true:=by kernel_rfl
theorem of_map_eq {α β:Type} {f g:α→β}:∀ {l:List α},l.map f = l.map g→∀ p ∈ l,f p = g p
 | [],_,_,hp=>by cases hp
 | a :: r,h,p,hp=>by
  simp only [List.map_cons,List.cons.injEq] at h
  rcases List.mem_cons.1 hp with rfl | hp
  ·exact h.1
  ·exact of_map_eq h.2 p hp
def env:Env Tryz.prog where
 und:=tyUnd
 und_ok:=of_map_eq tyUnd_ok
 inf:=tyInf
 inf_ok:=of_map_eq tyInf_ok
 mixed:=follows_mixed
open Go Go.Proofs Go.RowKit
attribute [local irreducible] Fit pt own ro vw mpc lpt vels rels mow lrc dfr
section
variable {P:Program} {E:Env P} {n:Sh} {X:Cx} {s:List K} {fr:Fr} {A:List Ch} {ops:Array Oper} {rest:List Oper} {d:Nat} {ty:TypeId} {pos:String} {after:Array Edge} {a b:Code}
theorem gca {f:FuncId} {args:Array Operand} {ats:Array TypeId} (h:TO E n X s ops (⟨some d,.call ⟨.value (.func f),args,ats⟩,ty,pos,after,none⟩ :: rest) fr A):TO E n X s ops (⟨some d,.call ⟨.value (.func f),args,ats⟩,ty,pos,after,none⟩ :: rest) fr A:=h
theorem sq_cut (p:Prop) (fr':Fr) (hb:p→TC E n X s b fr' A) (ha:(p→∀ fr2,Sub fr' fr2→TC E n X s b fr2 A)→TC E n X (.code b :: s) a fr A):TC E n X s (.seq a b) fr A:=
 sq (ha fun hp fr2 hs=>⟨fun w hw=>SC_sub fr' hs ((hb hp).run w hw)⟩)
end
def pick (x n:Int):Int:=if n ≤ 0 then 0 else x % n
theorem tmod_pick (x m:Int) (hm:0 < m):x.tmod m = (if x.tmod m < 0 then x % m - m else x % m):=by
 rw [Int.tmod_eq_emod]
 have h1:=Int.emod_nonneg x (show m ≠ 0 by omega)
 have h2:=Int.emod_lt_of_pos x hm
 by_cases hx:0 ≤ x∨m ∣ x
 ·have:¬ (x % m - 0 < 0):=by omega
  simp [hx];intro;omega
 ·have hn:((m.natAbs:Nat):Int) = m:=by omega
  simp only [hx,if_false,hn]
  have:x % m - m < 0:=by omega
  simp [this]
theorem pick_in (x:Int) {n:Int} (h:0 < n):0 ≤ pick x n∧pick x n < n:=by
 unfold pick;rw [if_neg (by omega)];exact ⟨Int.emod_nonneg _ (by omega),Int.emod_lt_of_pos _ h⟩
theorem amodw {P:Program} {E:Env P} {n:Sh} {X:Cx} {s:List K} {fr:Fr} {A:List Ch} {ops:Array Oper} {rest:List Oper} {d:Nat} {ty t t':TypeId} {pos:String} {after:Array Edge} {x y:Operand} {m q:Int} (k:TO E n X s ops rest ((d,I (m.tmod q)) :: fr) A) (hx:ev fr x = some (I m):=by rfl) (hy:ev fr y = some (I q):=by rfl) (hb:q ≠ 0:=by omega) (hd:Nat.blt d n.n = true:=by rfl) :
  TO E n X s ops (⟨some d,.binOp .rem t x y t',ty,pos,after,none⟩ :: rest) fr A:=TO.val (fun _ _=>R_rem hx hy hb) k hd
end Go.Art
namespace Go.Art
open Go Go.RowKit
def elgP (g:Int→Value) (hs:List Value) (ls:List (List Int)) (w:World):Prop:=hs.length = ls.length∧∀ i,i < ls.length→Sl w (hs.getD i nS) ((ls.getD i []).map g)
def elgF (g:Int→Value) (hs:List Value) (ls:List (List Int)) (x:Nat):Prop:=∃ i,i < ls.length∧(ls.getD i []).map g ≠ []∧(hs.getD i nS).ownBlock = some x
theorem elgP.keep {g:Int→Value} {w w':World} {hs:List Value} {ls:List (List Int)} (h:elgP g hs ls w) (hb:∀ b,elgF g hs ls b→w'.heap[b]? = w.heap[b]?):elgP g hs ls w':=⟨h.1,fun i hi=>(h.2 i hi).of_block fun b hx=>hb b ⟨i,hi,hx⟩⟩
theorem elgP.lt {g:Int→Value} {w:World} {hs:List Value} {ls:List (List Int)} (h:elgP g hs ls w) {b:Nat} (hb:elgF g hs ls b):b < w.heap.size:=by obtain ⟨i,hi,hx⟩:=hb;exact (h.2 i hi).blt hx
def velg (g:Int→Value) (hs:List Value) (ls:List (List Int)):Ch where
 wr:=fun _=>False
 rd:=fun _=>False
 bd:=elgF g hs ls
 P:=elgP g hs ls
 loc:=fun h hb=>h.keep fun b h=>hb b (.inr (.inr h))
 lt:=fun h hb=>by rcases hb with hb | hb | hb;exact hb.elim;exact hb.elim;exact h.lt hb
def relg (g:Int→Value) (hs:List Value) (ls:List (List Int)):Ch where
 wr:=fun _=>False
 rd:=elgF g hs ls
 bd:=fun _=>False
 P:=elgP g hs ls
 loc:=fun h hb=>h.keep fun b h=>hb b (.inr (.inl h))
 lt:=fun h hb=>by rcases hb with hb | hb | hb;exact hb.elim;exact h.lt hb;exact hb.elim
instance (g:Int→Value) (hs:List Value) (ls:List (List Int)):Lent (velg g hs ls):=⟨fun _=>⟨fun h=>h,fun h=>h⟩⟩
instance (g:Int→Value) (hs:List Value) (ls:List (List Int)):NoB (relg g hs ls):=⟨fun _ h=>h⟩
theorem has_velg {g:Int→Value} {F:List Ch} {hs:List Value} {ls:List (List Int)} (h:velg g hs ls ∈ F):Has F (velg g hs ls):=⟨fun _ hw=>hw.h _ h,fun _ h=>h,fun _ h=>h,fun _ hb=>⟨_,h,hb⟩⟩
theorem has_relg {g:Int→Value} {F:List Ch} {hs:List Value} {ls:List (List Int)} (h:relg g hs ls ∈ F):Has F (velg g hs ls):=⟨fun _ hw=>hw.h (relg g hs ls) h,fun _ h=>h,fun _ h=>h,fun x hb=>⟨_,h,by rcases hb with hb | hb | hb;exact hb.elim;exact hb.elim;exact .inr (.inl hb)⟩⟩
theorem has_elg {g:Int→Value} {F:List Ch} {hs:List Value} {ls:List (List Int)} {i:Nat} (h:Has F (velg g hs ls)) (hi:i < ls.length):Has F (vw (hs.getD i nS) ((ls.getD i []).map g)):=
 ⟨fun w hw=>(h.P w hw).2 i hi,fun _ h=>h,fun _ h=>h,fun b hb=>h.ft b (by rcases hb with hb | hb | hb;exact hb.elim;exact hb.elim;exact .inr (.inr ⟨i,hi,hb⟩))⟩
theorem elg_len {g:Int→Value} {A:List Ch} {hs:List Value} {ls:List (List Int)} (h:Has A (velg g hs ls)) (w:World) (hw:Sat A w):hs.length = ls.length:=(h.P w hw).1
theorem relg_nil {g:Int→Value} (A:List Ch):Im A (relg g [] [] :: A):=by
 have h0:∀ b,¬ (relg g [] []).ft b:=by rintro b (h | ⟨i,hi,_⟩ | h);exact h;simp at hi;exact h
 refine ⟨fun w hw=>Sat.cons.2 ⟨⟨rfl,fun i hi=>by simp at hi⟩,fun a _=>⟨fun b hb=>hb.elim,fun b _ hf=>h0 b hf⟩,hw⟩,fun b hb=>?_,fun b hb=>?_,fun b hb=>?_⟩
 ·obtain ⟨x,hx,hb⟩:=hb
  rcases List.mem_cons.1 hx with rfl | hx
  ·exact hb.elim
  ·exact ⟨x,hx,hb⟩
 ·obtain ⟨x,hx,hb⟩:=hb
  rcases List.mem_cons.1 hx with rfl | hx
  ·exact absurd (.inr (.inl hb)) (h0 b)
  ·exact .inr ⟨x,hx,hb⟩
 ·obtain ⟨x,hx,hb⟩:=hb
  rcases List.mem_cons.1 hx with rfl | hx
  ·exact absurd hb (h0 b)
  ·exact ⟨x,hx,hb⟩
theorem relg_snoc {g:Int→Value} {hs:List Value} {ls:List (List Int)} (hl:hs.length = ls.length) (v:Value) (l:List Int) (A:List Ch):Im (relg g hs ls :: ro v (l.map g) :: A) (relg g (hs ++ [v]) (ls ++ [l]) :: A):=by
 have hF:∀ b,elgF g (hs ++ [v]) (ls ++ [l]) b→elgF g hs ls b∨(l.map g ≠ []∧v.ownBlock = some b):=by
  rintro b ⟨i,hi,h1,h2⟩
  rw [getD_snoc] at h1 h2
  by_cases hlt:i < ls.length
  ·rw [if_pos hlt] at h1;rw [if_pos (by omega)] at h2;exact .inl ⟨i,hlt,h1,h2⟩
  ·have:i = ls.length:=by simp at hi;omega
   rw [if_neg hlt,if_pos this] at h1;rw [if_neg (by omega),if_pos (by omega)] at h2;exact .inr ⟨h1,h2⟩
 have key:∀ b,elgF g (hs ++ [v]) (ls ++ [l]) b→rds [relg g hs ls,ro v (l.map g)] b:=fun b hb=>by
  rcases hF b hb with h | h
  ·exact ⟨relg g hs ls,by simp,h⟩
  ·exact ⟨ro v (l.map g),by simp,h⟩
 refine ⟨fun w hw=>?_,fun b hb=>?_,fun b hb=>?_,fun b hb=>?_⟩
 ·obtain ⟨h1,h2,h3⟩:=Sat.cons.1 hw
  obtain ⟨h4,h5,h6⟩:=Sat.cons.1 h3
  refine Sat.cons.2 ⟨⟨by simp [hl],fun i hi=>?_⟩,fun a ha=>⟨fun b hb=>hb.elim,fun b hb hf=>?_⟩,h6⟩
  ·rw [getD_snoc,getD_snoc]
   by_cases hlt:i < ls.length
   ·rw [if_pos (by omega),if_pos hlt];exact h1.2 i hlt
   ·have:i = ls.length:=by simp at hi;omega
    rw [if_neg (by omega),if_pos (by omega),if_neg hlt,if_pos this];exact h4
  ·rcases hf with hf | hf | hf
   ·exact hf
   ·rcases hF b hf with h | h
    ·exact (h2 a (by simp [ha])).2 b hb (.inr (.inl h))
    ·exact (h5 a ha).2 b hb (.inr (.inl h))
   ·exact hf
 ·obtain ⟨x,hx,hb⟩:=hb
  rcases List.mem_cons.1 hx with rfl | hx
  ·exact hb.elim
  ·exact ⟨x,by simp [hx],hb⟩
 ·obtain ⟨x,hx,hb⟩:=hb
  rcases List.mem_cons.1 hx with rfl | hx
  ·obtain ⟨c,hc,h⟩:=key b hb
   simp only [List.mem_cons,List.not_mem_nil,or_false] at hc
   rcases hc with rfl | rfl
   ·exact .inr ⟨relg g hs ls,by simp,h⟩
   ·exact .inr ⟨ro v (l.map g),by simp,h⟩
  ·exact .inr ⟨x,by simp [hx],hb⟩
 ·obtain ⟨x,hx,hb⟩:=hb
  rcases List.mem_cons.1 hx with rfl | hx
  ·rcases hb with hb | hb | hb
   ·exact hb.elim
   ·obtain ⟨c,hc,h⟩:=key b hb
    simp only [List.mem_cons,List.not_mem_nil,or_false] at hc
    rcases hc with rfl | rfl
    ·exact ⟨relg g hs ls,by simp,.inr (.inl h)⟩
    ·exact ⟨ro v (l.map g),by simp,.inr (.inl h)⟩
   ·exact hb.elim
  ·exact ⟨x,by simp [hx],hb⟩
section
variable {P:Program} {E:Env P} {n:Sh} {X:Cx} {s:List K} {fr:Fr} {A:List Ch} {c0:Code} {g:Int→Value}
theorem TC.elg {g:Int→Value} {hs:List Value} {ls:List (List Int)} (k:hs.length = ls.length→TC E n X s c0 fr A) (hh:Has A (velg g hs ls):=by first | exact has_velg memA | exact has_relg memA):TC E n X s c0 fr A:=TC.fact (fun w hw=>elg_len hh w hw) k
end
end Go.Art
namespace Go.Art
open Go Go.Proofs Go.RowKit
attribute [local irreducible] Fit pt own ro vw mpc lpt vels rels mow lrc dfr
theorem one_nil:∀ c ∈ ([]:List Value),c.oneCell' = true:=fun _ h=>nomatch h
theorem one_cons {c:Value} {l:List Value} (h:c.oneCell' = true) (k:∀ c ∈ l,c.oneCell' = true):∀ x ∈ c :: l,x.oneCell' = true:=fun x hx=>by
 rcases List.mem_cons.1 hx with rfl | hx
 ·exact h
 ·exact k x hx
section
variable {P:Program} {E:Env P} {n:Sh} {X:Cx} {s:List K} {fr:Fr} {A A':List Ch} {ops:Array Oper} {rest:List Oper} {d:Nat} {ty t T:TypeId} {pos:String} {after:Array Edge} {z:Value} {x y:Operand} {b j sz by_:Nat} {cs vs cs':List Value}
theorem srz (k:TO E n X s ops rest fr (pt b cs' T :: A')) (ha:ev fr x = some (.pointer (some ⟨b,j,none⟩)):=by rfl) (hm:Tk (pt b cs T) A A':=by exact tkA) (hx:ev fr y = some (.agg vs.toArray):=by rfl) (hi:lk E.inf t = some (z,sz,by_):=by rfl) (hl:vs.length = sz:=by rfl)
  (h1:∀ v ∈ vs,v.oneCell' = true:=by (repeat (first | exact one_nil | refine one_cons (by first | rfl | assumption) ?_));first | done | fail) (hj:j + sz ≤ cs.length:=by decide) (hs:cs.take j ++ vs ++ cs.drop (j + sz) = cs':=by rfl):TO E n X s ops (⟨none,.store t x y,ty,pos,after,none⟩ :: rest) fr A:=sra k ha hm hx hi hl h1 hj hs
end
abbrev y8:Int→Value:=.int .u8
abbrev By (l:List Int):List Value:=l.map y8
theorem lpt_has {b:Nat} {cs:List Value} {T:TypeId}:∀ c ∈ [lpt b cs T],∀ A:List Ch,c ∈ A→Has A c:=fun c hc A h=>by
 rw [List.mem_singleton.1 hc] at h ⊢;exact has_lpt h
theorem getD_memL {ls:List (List Int)} {i:Nat} (h:i < ls.length):ls.getD i [] ∈ ls:=by rw [List.getD_eq_getElem?_getD,List.getElem?_eq_getElem h];exact List.getElem_mem h
theorem By_len (l:List Int):(By l).length = l.length:=List.length_map ..
theorem By_get (l:List Int) (i:Nat) (h:i < l.length):(By l)[i]? = some (y8 (l.getD i 0)):=by simp [List.getD_eq_getElem?_getD,h]
theorem By_set (l:List Int) (i:Nat) (c:Int):By (l.set i c) = (By l).set i (y8 c):=by simp [List.map_set]
theorem By_one (l:List Int):∀ c ∈ By l,c.oneCell' = true:=fun c hc=>by obtain ⟨x,_,rfl⟩:=List.mem_map.1 hc;rfl
end Go.Art
namespace Go.Art
open Go Go.Proofs Go.RowKit
def unI:List Value→Option (List Int)
 | []=>some []
 | .int .i64 x :: r=>match unI r with
  | some a=>some (x :: a)
  | none=>none
 | _=>none
def unB:List Value→Option (List Int)
 | []=>some []
 | .int .u8 x :: r=>match unB r with
  | some a=>some (x :: a)
  | none=>none
 | _=>none
theorem unB_eq:∀ {vs:List Value} {l:List Int},unB vs = some l→vs = By l
 | [],l,h=>by cases h;rfl
 | .int .u8 x :: r,l,h=>by
  cases ha:unB r with
  | none=>simp [unB,ha] at h
  | some a=>simp [unB,ha] at h;subst h;rw [unB_eq ha];rfl
section
variable {P:Program} {E:Env P} {n:Sh} {X:Cx} {s:List K} {fr:Fr} {A A':List Ch} {ops:Array Oper} {rest:List Oper} {d m:Nat} {ty t e:TypeId} {pos:String} {after:Array Edge} {v z:Value} {x y:Operand} {by_:Nat} {parts:List (Nat × Operand)} {vs:List Value}
theorem slbz {l:List Int} (k:∀ v',v'.oneCell' = true→TO E n X s ops rest ((d,v') :: fr) (own e v' (By l) :: A)) (hp:parts = idxP 0 (parts.map (·.2)):=by rfl) (hv:evs fr (parts.map (·.2)) = some vs:=by rfl) (hi:unB vs = some l:=by rfl)
  (hk:l.length = m:=by rfl) (hk0:Nat.blt 0 m = true:=by rfl) (hkm:Nat.ble m 16777216 = true:=by rfl) (ht:lk E.und t = some (.slice e):=by rfl) (he:lk E.inf e = some (z,1,by_):=by rfl) (hd:Nat.blt d n.n = true:=by rfl) :
  TO E n X s ops (⟨some d,.buildSlice t m parts.toArray,ty,pos,after,none⟩ :: rest) fr A:=by
 have:=unB_eq hi
 subst this
 exact sli (fun v=>TO.one (v:=v) (xs:=By l) (fun h=>k v h) hasA) hp hv (By_one l) (by rw [By_len];exact hk) hk0 hkm ht he hd
theorem slw (k:∀ v',v'.oneCell' = true→TO E n X s ops rest ((d,v') :: fr) (own e v' vs :: A)) (hp:parts = idxP 0 (parts.map (·.2)):=by rfl) (hv:evs fr (parts.map (·.2)) = some vs:=by rfl)
  (h1:∀ c ∈ vs,c.oneCell' = true:=by (repeat (first | exact one_nil | refine one_cons (by first | rfl | assumption) ?_));first | done | fail)
  (hk:vs.length = m:=by rfl) (hk0:Nat.blt 0 m = true:=by rfl) (hkm:Nat.ble m 16777216 = true:=by rfl) (ht:lk E.und t = some (.slice e):=by rfl) (he:lk E.inf e = some (z,1,by_):=by rfl) (hd:Nat.blt d n.n = true:=by rfl) :
  TO E n X s ops (⟨some d,.buildSlice t m parts.toArray,ty,pos,after,none⟩ :: rest) fr A:=
 sli (fun v=>TO.one (v:=v) (xs:=vs) (fun h=>k v h) hasA) hp hv h1 hk hk0 hkm ht he hd
end
section
variable {P:Program} {E:Env P} {n:Sh} {X:Cx} {s:List K} {fr:Fr} {A A':List Ch} {ops:Array Oper} {rest:List Oper} {d j by_:Nat} {ty t el:TypeId} {pos:String} {after:Array Edge} {v z:Value} {x y:Operand} {l:List Int} {dt:TypeDesc} {m:Int}
theorem lb (k:TO E n X s ops rest ((d,y8 (l.getD j 0)) :: fr) A) (hx:ev fr x = some (.pointer (some (addrAt v j))):=by rfl) (hh:Has A (vw v (By l)):=by exact hasA) (hj:j < l.length:=by omega)
  (ht:lk E.und t = some dt:=by rfl) (hg:aggB dt = false:=by rfl) (hd:Nat.blt d n.n = true:=by rfl):TO E n X s ops (⟨some d,.load t x,ty,pos,after,none⟩ :: rest) fr A:=le k hx hh (By_get l j hj) ht hg hd
theorem qlb (k:TQ E n X s ops rest ((d,y8 (l.getD j 0)) :: fr) A) (hx:ev fr x = some (.pointer (some (addrAt v j))):=by rfl) (hh:Has A (vw v (By l)):=by exact hasA) (hj:j < l.length:=by omega)
  (ht:lk E.und t = some dt:=by rfl) (hg:aggB dt = false:=by rfl) (hd:Nat.blt d n.n = true:=by rfl):TQ E n X s ops (⟨some d,.load t x,ty,pos,after,none⟩ :: rest) fr A:=qle k hx hh (By_get l j hj) ht hg hd
theorem sob (k:TO E n X s ops rest fr (own el v (By (l.set j m)) :: A')) (hx:ev fr x = some (.pointer (some (addrAt v j))):=by rfl) (hm:Tk (own el v (By l)) A A':=by exact tkA) (hy:ev fr y = some (y8 m):=by rfl)
  (hj:j < l.length:=by omega) (ht:lk E.inf t = some (z,1,by_):=by rfl):TO E n X s ops (⟨none,.store t x y,ty,pos,after,none⟩ :: rest) fr A:=so k hx hm hy (by rw [By_len];exact hj) (By_set l j m) rfl ht
end
theorem hpl_nil:∀ c ∈ ([]:List Ch),∀ A:List Ch,c ∈ A→Has A c:=fun _ h=>nomatch h
theorem hpl_lpt {b:Nat} {cs:List Value} {T:TypeId} {pre:List Ch} (k:∀ c ∈ pre,∀ A:List Ch,c ∈ A→Has A c):∀ c ∈ lpt b cs T :: pre,∀ A:List Ch,c ∈ A→Has A c:=fun c hc A h=>by
 rcases List.mem_cons.1 hc with rfl | hc
 ·exact has_lpt h
 ·exact k c hc A h
theorem hpl_vw {v:Value} {xs:List Value} {pre:List Ch} (k:∀ c ∈ pre,∀ A:List Ch,c ∈ A→Has A c):∀ c ∈ vw v xs :: pre,∀ A:List Ch,c ∈ A→Has A c:=fun c hc A h=>by
 rcases List.mem_cons.1 hc with rfl | hc
 ·exact has_vw h
 ·exact k c hc A h
theorem Tr.law {P:Program} {f:FuncId} {args:List Value} {pre:List Ch} (h:Tr P f args pre [] fun v D=>v = .bool true∧D = []) {w:World} (hw:Sat pre w):Fn P f args w fun v w'=>v = .bool true∧Ext w w':=
 (h.fn hw).mono fun _ _ ⟨he,_,⟨hv,_⟩,_⟩=>⟨hv,he⟩
end Go.Art
namespace Go.Art
open Go Go.Proofs Go.RowKit
abbrev Bo (l:List Bool):List Value:=l.map Value.bool
theorem Bo_len (l:List Bool):(Bo l).length = l.length:=List.length_map ..
theorem Bo_get (l:List Bool) (j:Nat) (h:j < l.length):(Bo l)[j]? = some (.bool (l.getD j false)):=by
 unfold Bo;rw [List.getElem?_map,List.getElem?_eq_getElem h,List.getD_eq_getElem?_getD,List.getElem?_eq_getElem h];rfl
section
variable {P:Program} {E:Env P} {n:Sh} {X:Cx} {s:List K} {fr:Fr} {A A':List Ch} {ops:Array Oper} {rest:List Oper} {d:Nat} {ty t el:TypeId} {pos:String} {after:Array Edge} {z v:Value} {x y:Operand} {by_:Nat}
theorem lbo {l:List Bool} {j:Nat} {dt:TypeDesc} (k:TO E n X s ops rest ((d,.bool (l.getD j false)) :: fr) A) (hx:ev fr x = some (.pointer (some (addrAt v j))):=by rfl) (hh:Has A (vw v (Bo l)):=by exact hasA) (hj:j < l.length:=by omega)
  (ht:lk E.und t = some dt:=by rfl) (hg:aggB dt = false:=by rfl) (hd:Nat.blt d n.n = true:=by rfl):TO E n X s ops (⟨some d,.load t x,ty,pos,after,none⟩ :: rest) fr A:=le k hx hh (Bo_get l j hj) ht hg hd
end
section
variable {P:Program} {E:Env P} {n:Sh} {X:Cx} {s:List K} {fr:Fr} {A A':List Ch} {ops:Array Oper} {rest:List Oper} {d:Nat} {ty t:TypeId} {pos:String} {after:Array Edge} {x y:Operand} {v u z:Value} {by_:Nat} {l news:List Int}
theorem apb {e:TypeId} (k:∀ v',v'.oneCell' = true→TO E n X s ops rest ((d,v') :: fr) (own e v' (By (l ++ news)) :: A')) (hx:ev fr x = some v:=by rfl) (hy:ev fr y = some u:=by rfl) (hm:Tk (own e v (By l)) A A':=by exact tkA) (hu:Has A' (vw u (By news)):=by exact hasA)
  (hl:l.length + news.length ≤ 17592186044416:=by first | omega | (simp only [List.length_append,List.length_cons,List.length_nil];omega)) (ht:lk E.und t = some (.slice e):=by rfl) (he:lk E.inf e = some (z,1,by_):=by rfl) (hz:z.cells.size = 1:=by rfl) (hb:by_ ≤ 8:=by decide)
  (hd:Nat.blt d n.n = true:=by rfl):TO E n X s ops (⟨some d,.call ⟨.builtin .append,#[x,y],#[t,t]⟩,ty,pos,after,none⟩ :: rest) fr A:=
 ap (fun v'=>by
  have:=fun h=>k v' h
  rw [By,List.map_append] at this
  exact TO.one (v:=v') (xs:=By l ++ By news) (fun h=>this h) hasA) hx hy hm hu (By_one news) ht he hz (by rw [By_len,By_len];have:=Nat.mul_le_mul hl hb;omega) (by rw [By_len,By_len];omega) hd
end
theorem lpt_at {A:List Ch} {w:World} {b:Nat} {cs:List Value} {T:TypeId} (h:lpt b cs T ∈ A) (hw:Sat A w):w.heap[b]? = some (.cells cs.toArray T (0,0)):=hw.h (lpt b cs T) h
end Go.Art
namespace Go.Art
open Go Go.Proofs Go.RowKit
section
variable {P:Program} {E:Env P} {n:Sh} {X:Cx} {s:List K} {fr:Fr} {A:List Ch} {ops:Array Oper} {rest:List Oper} {d:Nat} {ty t t':TypeId} {pos:String} {after:Array Edge} {x y:Operand} {b1 b2:Bool}
theorem R_bne {w:World} (hx:ev fr x = some (.bool b1)) (hy:ev fr y = some (.bool b2)) (ht:lk E.und t = some .bool):OpV P n fr (.binOp .neq t x y t') ty w (.bool (!(b1 == b2))) w:=⟨fun a ha _ _ _ _=>by
 have hg:(eqGuard .neq t x y (.bool b1) (.bool b2)).run P w = .ok () w:=rfl
 simp only [execOp,ha.ev hx,ha.ev hy]
 simp [hg,run_neq_bool (P:=P) w t b1 b2 (E.un ht)]⟩
theorem ibn (k:TO E n X s ops rest ((d,.bool (!(b1 == b2))) :: fr) A) (hx:ev fr x = some (.bool b1):=by rfl) (hy:ev fr y = some (.bool b2):=by rfl) (ht:lk E.und t = some .bool:=by rfl) (hd:Nat.blt d n.n = true:=by rfl) :
  TO E n X s ops (⟨some d,.binOp .neq t x y t',ty,pos,after,none⟩ :: rest) fr A:=TO.val (fun _ _=>R_bne hx hy ht) k hd
end
def bnd (C:List Ch):Ch where
 wr:=wrs C
 rd:=rds C
 bd:=fun b=>∃ c ∈ C,c.bd b
 P:=Sat C
 loc:=fun h hb=>⟨h.ap,fun c hc=>c.loc (h.h c hc) fun b hf=>hb b (by
  rcases hf with hf | hf | hf
  ·exact .inl ⟨c,hc,hf⟩
  ·exact .inr (.inl ⟨c,hc,hf⟩)
  ·exact .inr (.inr ⟨c,hc,hf⟩))⟩
 lt:=fun h hb=>h.lt (by
  rcases hb with ⟨c,hc,hf⟩ | ⟨c,hc,hf⟩ | ⟨c,hc,hf⟩
  ·exact ⟨c,hc,.inl hf⟩
  ·exact ⟨c,hc,.inr (.inl hf)⟩
  ·exact ⟨c,hc,.inr (.inr hf)⟩)
theorem bnd_ft {C:List Ch} {b:Nat}:(bnd C).ft b ↔ fts C b:=by
 constructor
 ·rintro (⟨c,hc,hf⟩ | ⟨c,hc,hf⟩ | ⟨c,hc,hf⟩)
  ·exact ⟨c,hc,.inl hf⟩
  ·exact ⟨c,hc,.inr (.inl hf)⟩
  ·exact ⟨c,hc,.inr (.inr hf)⟩
 ·rintro ⟨c,hc,hf | hf | hf⟩
  ·exact .inl ⟨c,hc,hf⟩
  ·exact .inr (.inl ⟨c,hc,hf⟩)
  ·exact .inr (.inr ⟨c,hc,hf⟩)
theorem bnd_wrs {C F:List Ch} {b:Nat}:wrs (bnd C :: F) b ↔ wrs (C ++ F) b:=by
 rw [wrs_app]
 constructor
 ·rintro ⟨x,hx,hb⟩
  rcases List.mem_cons.1 hx with rfl | hx
  ·exact .inl hb
  ·exact .inr ⟨x,hx,hb⟩
 ·rintro (h | ⟨x,hx,hb⟩)
  ·exact ⟨_,List.Mem.head _,h⟩
  ·exact ⟨x,List.mem_cons_of_mem _ hx,hb⟩
theorem bnd_rds {C F:List Ch} {b:Nat}:rds (bnd C :: F) b ↔ rds (C ++ F) b:=by
 rw [rds_app]
 constructor
 ·rintro ⟨x,hx,hb⟩
  rcases List.mem_cons.1 hx with rfl | hx
  ·exact .inl hb
  ·exact .inr ⟨x,hx,hb⟩
 ·rintro (h | ⟨x,hx,hb⟩)
  ·exact ⟨_,List.Mem.head _,h⟩
  ·exact ⟨x,List.mem_cons_of_mem _ hx,hb⟩
theorem bnd_fts {C F:List Ch} {b:Nat}:fts (bnd C :: F) b ↔ fts (C ++ F) b:=by
 rw [fts_app]
 constructor
 ·rintro ⟨x,hx,hb⟩
  rcases List.mem_cons.1 hx with rfl | hx
  ·exact .inl (bnd_ft.1 hb)
  ·exact .inr ⟨x,hx,hb⟩
 ·rintro (h | ⟨x,hx,hb⟩)
  ·exact ⟨_,List.Mem.head _,bnd_ft.2 h⟩
  ·exact ⟨x,List.mem_cons_of_mem _ hx,hb⟩
theorem bnd_sat {C F:List Ch} {w:World}:Sat (bnd C :: F) w ↔ Sat (C ++ F) w:=by
 rw [Sat.cons,Sat.app]
 constructor
 ·rintro ⟨h1,h2,h3⟩
  refine ⟨h1,h3,fun a ha f hf=>⟨fun b hb hft=>(h2 f hf).1 b ⟨a,ha,hb⟩ hft,fun b hb hft=>(h2 f hf).2 b hb (bnd_ft.2 ⟨a,ha,hft⟩)⟩⟩
 ·rintro ⟨h1,h3,h2⟩
  refine ⟨h1,fun f hf=>⟨fun b hb hft=>?_,fun b hb hft=>?_⟩,h3⟩
  ·obtain ⟨a,ha,hb⟩:=hb;exact (h2 a ha f hf).1 b hb hft
  ·obtain ⟨a,ha,hft⟩:=bnd_ft.1 hft;exact (h2 a ha f hf).2 b hb hft
theorem im_bnd (C F:List Ch):Im (C ++ F) (bnd C :: F):=⟨fun _ h=>bnd_sat.2 h,fun _ h=>bnd_wrs.1 h,fun _ h=>.inr (bnd_rds.1 h),fun _ h=>bnd_fts.1 h⟩
theorem un_bnd (C F:List Ch):Im (bnd C :: F) (C ++ F):=⟨fun _ h=>bnd_sat.1 h,fun _ h=>bnd_wrs.2 h,fun _ h=>.inr (bnd_rds.2 h),fun _ h=>bnd_fts.2 h⟩
theorem bnd_nil (F:List Ch):Im F (bnd [] :: F):=im_bnd [] F
theorem perm_bnd {C D:List Ch} (p:C.Perm D) (F:List Ch):Im (bnd C :: F) (bnd D :: F):=(un_bnd C F).trans ((Im.perm (p.append_right F)).trans (im_bnd D F))
theorem bnd_cons (c:Ch) (C F:List Ch):Im (c :: bnd C :: F) (bnd (c :: C) :: F):=(Im.cons c (un_bnd C F)).trans (im_bnd (c :: C) F)
theorem bnd_snoc (c:Ch) (C F:List Ch):Im (c :: bnd C :: F) (bnd (C ++ [c]) :: F):=(bnd_cons c C F).trans (perm_bnd (by simpa using (List.perm_append_comm (l₁:=[c]) (l₂:=C))) F)
theorem bnd_uncons (c:Ch) (C F:List Ch):Im (bnd (c :: C) :: F) (c :: bnd C :: F):=(un_bnd (c :: C) F).trans (Im.cons c (im_bnd C F))
def owls (e:TypeId) (g:Int→Value) (hs:List Value) (ls:List (List Int)):List Ch:=List.zipWith (fun h l=>own e h (l.map g)) hs ls
def owl (e:TypeId) (g:Int→Value) (hs:List Value) (ls:List (List Int)):Ch:=bnd (owls e g hs ls)
theorem owls_nb {e:TypeId} {g:Int→Value} {hs:List Value} {ls:List (List Int)}:∀ c ∈ owls e g hs ls,∀ b,¬ c.bd b:=fun c hc b hb=>by
 unfold owls at hc
 rw [List.mem_iff_getElem] at hc
 obtain ⟨i,hi,rfl⟩:=hc
 rw [List.getElem_zipWith] at hb
 exact hb
instance {e:TypeId} {g:Int→Value} {hs:List Value} {ls:List (List Int)}:NoB (owl e g hs ls):=⟨fun b ⟨c,hc,hb⟩=>owls_nb c hc b hb⟩
theorem owls_get {e:TypeId} {g:Int→Value} {hs:List Value} {ls:List (List Int)} (hl:hs.length = ls.length) {i:Nat} (h:i < ls.length):(owls e g hs ls)[i]? = some (own e (hs.getD i nS) ((ls.getD i []).map g)):=by
 unfold owls
 rw [List.getElem?_zipWith,List.getD_eq_getElem?_getD,List.getD_eq_getElem?_getD,List.getElem?_eq_getElem h,List.getElem?_eq_getElem (show i < hs.length by omega)]
 rfl
theorem owl_nil {e:TypeId} {g:Int→Value} (F:List Ch):Im F (owl e g [] [] :: F):=bnd_nil F
theorem owl_snoc {e:TypeId} {g:Int→Value} {hs:List Value} {ls:List (List Int)} (hl:hs.length = ls.length) (v:Value) (l:List Int) (F:List Ch):Im (own e v (l.map g) :: owl e g hs ls :: F) (owl e g (hs ++ [v]) (ls ++ [l]) :: F):=by
 have h:owls e g (hs ++ [v]) (ls ++ [l]) = owls e g hs ls ++ [own e v (l.map g)]:=by unfold owls;rw [List.zipWith_append hl];rfl
 unfold owl
 rw [h]
 exact bnd_snoc _ _ F
theorem owl_push {e:TypeId} {g:Int→Value} {hs:List Value} {ls:List (List Int)} {v:Value} {l:List Int} {A F:List Ch} (hl:hs.length = ls.length) (hf:Fit A [own e v (l.map g),owl e g hs ls] F):Im A (owl e g (hs ++ [v]) (ls ++ [l]) :: F):=Im.trans hf (owl_snoc hl v l F)
theorem owl_uncons {e:TypeId} {g:Int→Value} {h:Value} {l:List Int} {hs:List Value} {ls:List (List Int)} (F:List Ch):Im (owl e g (h :: hs) (l :: ls) :: F) (own e h (l.map g) :: owl e g hs ls :: F):=bnd_uncons _ _ F
theorem owl_pop {e:TypeId} {g:Int→Value} {h:Value} {l:List Int} {hs:List Value} {ls:List (List Int)} {A F:List Ch} (hf:Fit A [owl e g (h :: hs) (l :: ls)] F):Im A (own e h (l.map g) :: owl e g hs ls :: F):=Im.trans hf (owl_uncons F)
theorem drop_getD {α:Type} {l:List α} {i:Nat} (h:i < l.length) (z:α):l.drop i = l.getD i z :: l.drop (i + 1):=by rw [List.drop_eq_getElem_cons h];simp [List.getD_eq_getElem?_getD,h]
theorem has_owl {e:TypeId} {g:Int→Value} {hs:List Value} {ls:List (List Int)} {F:List Ch} (hl:hs.length = ls.length) (h:owl e g hs ls ∈ F):Has F (velg g hs ls):=by
 refine ⟨fun w hw=>⟨hl,fun i hi=>?_⟩,fun b h=>h,fun b h=>h,fun b hb=>⟨_,h,?_⟩⟩
 ·have h1:Sat (owls e g hs ls) w:=hw.h _ h
  have h2:OwnO w e (hs.getD i nS) ((ls.getD i []).map g):=h1.h _ (List.mem_of_getElem? (owls_get hl hi))
  exact h2.sl
 ·rcases hb with hb | hb | ⟨i,hi,_,hx⟩
  ·exact hb.elim
  ·exact hb.elim
  ·exact .inl ⟨_,List.mem_of_getElem? (owls_get hl hi),hx⟩
end Go.Art
namespace Go.Art
open Go Go.Proofs
def renSort:Shelf.Ren:=
{
 f:=fun x=>
  match x with
  | 189=>180
  | 125=>193
  | 257=>192
  | 128=>208
  | 129=>209
  | 294=>199
  | 295=>200
  | 296=>201
  | 297=>202
  | 298=>203
  | 299=>204
  | 216=>205
  | 300=>206
  | 301=>207
  | 328=>211
  | 329=>212
  | 330=>213
  | 331=>214
  | 332=>215
  | 215=>216
  | 343=>217
  | n=>n,
 t:=fun x=>
  match x with
  | 28=>22
  | 3=>3
  | 46=>145
  | 0=>0
  | 51=>186
  | 53=>177
  | 4=>4
  | 183=>239
  | 182=>238
  | 131=>111
  | 5=>5
  | 9=>9
  | 218=>247
  | 222=>159
  | 228=>251
  | 229=>252
  | n=>n,
 g:=fun x=>
  have n:=x;
  n }
theorem laysSort:Lays.n189 Tryz.prog renSort:=
{mixed:=Eq.refl true,f125:=Eq.trans Tryz.func193 (congrArg some (Eq.refl (Body.n125 renSort))),
 f128:=Eq.trans Tryz.func208 (congrArg some (Eq.refl (Body.n128 renSort))),
 f129:=Eq.trans Tryz.func209 (congrArg some (Eq.refl (Body.n129 renSort))),
 f189:=Eq.trans Tryz.func180 (congrArg some (Eq.refl (Body.n189 renSort))),
 f215:=Eq.trans Tryz.func216 (congrArg some (Eq.refl (Body.n215 renSort))),
 f216:=Eq.trans Tryz.func205 (congrArg some (Eq.refl (Body.n216 renSort))),
 f257:=Eq.trans Tryz.func192 (congrArg some (Eq.refl (Body.n257 renSort))),
 f294:=Eq.trans Tryz.func199 (congrArg some (Eq.refl (Body.n294 renSort))),
 f295:=Eq.trans Tryz.func200 (congrArg some (Eq.refl (Body.n295 renSort))),
 f296:=Eq.trans Tryz.func201 (congrArg some (Eq.refl (Body.n296 renSort))),
 f297:=Eq.trans Tryz.func202 (congrArg some (Eq.refl (Body.n297 renSort))),
 f298:=Eq.trans Tryz.func203 (congrArg some (Eq.refl (Body.n298 renSort))),
 f299:=Eq.trans Tryz.func204 (congrArg some (Eq.refl (Body.n299 renSort))),
 f300:=Eq.trans Tryz.func206 (congrArg some (Eq.refl (Body.n300 renSort))),
 f301:=Eq.trans Tryz.func207 (congrArg some (Eq.refl (Body.n301 renSort))),
 f328:=Eq.trans Tryz.func211 (congrArg some (Eq.refl (Body.n328 renSort))),
 f329:=Eq.trans Tryz.func212 (congrArg some (Eq.refl (Body.n329 renSort))),
 f330:=Eq.trans Tryz.func213 (congrArg some (Eq.refl (Body.n330 renSort))),
 f331:=Eq.trans Tryz.func214 (congrArg some (Eq.refl (Body.n331 renSort))),
 f332:=Eq.trans Tryz.func215 (congrArg some (Eq.refl (Body.n332 renSort))),
 f343:=Eq.trans Tryz.func217 (congrArg some (Eq.refl (Body.n343 renSort))),t0:=Tryz.underlying0,
 a0:=Tryz.isAgg0,z0:=Tryz.sizeOf0,v0:=Tryz.zeroValue0,t3:=Tryz.underlying3,a3:=Tryz.isAgg3,
 z3:=Tryz.sizeOf3,v3:=Tryz.zeroValue3,t4:=Tryz.underlying4,a4:=Tryz.isAgg4,z4:=Tryz.sizeOf4,
 v4:=Tryz.zeroValue4,t5:=Tryz.underlying5,a5:=Tryz.isAgg5,z5:=Tryz.sizeOf5,v5:=Tryz.zeroValue5,
 t9:=Tryz.underlying9,a9:=Tryz.isAgg9,z9:=Tryz.sizeOf9,v9:=Tryz.zeroValue9,t28:=Tryz.underlying22,
 a28:=Tryz.isAgg22,z28:=Tryz.sizeOf22,v28:=Tryz.zeroValue22,t46:=Tryz.underlying145,a46:=Tryz.isAgg145,
 z46:=Tryz.sizeOf145,v46:=Tryz.zeroValue145,t51:=Tryz.underlying186,a51:=Tryz.isAgg186,
 z51:=Tryz.sizeOf186,v51:=Tryz.zeroValue186,t53:=Tryz.underlying177,a53:=Tryz.isAgg177,
 z53:=Tryz.sizeOf177,v53:=Tryz.zeroValue177,t131:=Tryz.underlying111,a131:=Tryz.isAgg111,
 z131:=Tryz.sizeOf111,v131:=Tryz.zeroValue111,t182:=Tryz.underlying238,a182:=Tryz.isAgg238,
 z182:=Tryz.sizeOf238,v182:=Tryz.zeroValue238,t183:=Tryz.underlying239,a183:=Tryz.isAgg239,
 z183:=Tryz.sizeOf239,v183:=Tryz.zeroValue239,t218:=Tryz.underlying247,a218:=Tryz.isAgg247,
 z218:=Tryz.sizeOf247,v218:=Tryz.zeroValue247,t222:=Tryz.underlying159,a222:=Tryz.isAgg159,
 z222:=Tryz.sizeOf159,v222:=Tryz.zeroValue159,t228:=Tryz.underlying251,a228:=Tryz.isAgg251,
 z228:=Tryz.sizeOf251,v228:=Tryz.zeroValue251,t229:=Tryz.underlying252,a229:=Tryz.isAgg252,
 z229:=Tryz.sizeOf252,v229:=Tryz.zeroValue252 }
open Go Go.Proofs Go.RowKit
def srt (xs:List Int):List Int:=xs.mergeSort fun x y=>decide (x ≤ y)
theorem srt_perm (xs:List Int):(srt xs).Perm xs:=List.mergeSort_perm xs _
theorem srt_length (xs:List Int):(srt xs).length = xs.length:=(srt_perm xs).length_eq
theorem srt_sorted (xs:List Int):(srt xs).Pairwise (· ≤ ·):=by
 have h:=List.pairwise_mergeSort (le:=fun x y:Int=>decide (x ≤ y)) (fun a b c h1 h2=>by simp at *;omega) (fun a b=>by simp;omega) xs
 exact h.imp fun h=>by simpa using h
theorem Sort_tr (v:Value) (xs:List Int) (hlen:xs.length < 4611686018427387904):Tr Tryz.prog 180 [v] [] [own 3 v (Is xs)] fun u D=>u = .tuple #[]∧D = [own 3 v (Is (srt xs))]:=by
 refine ⟨fun w hw=>?_,fun _ h=>nomatch h⟩
 have hO:OwnO w 3 v (Is xs):=hw.h (own 3 v (Is xs)) (by simp)
 have fin:∀ (w':World) (u:Value),Upd w w' v.ownBlock.toList→OwnO w' 3 v (Is (srt xs))→u = .tuple #[]→PR w [own 3 v (Is xs)] (fun u D=>u = .tuple #[]∧D = [own 3 v (Is (srt xs))]) u w':=by
  intro w' u hU hO' hu
  refine ⟨[own 3 v (Is (srt xs))],⟨hu,rfl⟩,Sat.one hO',Mv.upd hU (fun b hb=>.inl (wrs_one.2 (by show v.ownBlock = some b;simpa using hb))) (fun b hb=>.inl (wrs_one.2 (by have:=wrs_one.1 hb;exact this))) (fun b hb=>(by have:=rds_one.1 hb;exact this.elim)),fun c hc b hb=>?_⟩
  obtain rfl:c = own 3 v (Is (srt xs)):=by simpa using hc
  exact hb
 refine ⟨⟨_,Tryz.func180,rfl,rfl⟩,?_⟩
 have hl:=Is_len xs
 rcases hO with ⟨rfl,h0⟩ | ⟨b,o,cap,cur,rfl,hb,h1,h2,h3,h4⟩
 ·obtain rfl:xs = []:=by cases xs with | nil=>rfl | cons=>cases h0
  exact (calls_of_every_depth fun D=>AnyS.slices_Sort_int_none_in laysSort D none 0 w).mono fun e w' ⟨he,hw⟩=>by
   subst he hw
   exact ⟨_,rfl,fin _ _ (Upd.refl _ _) (by rw [show srt [] = [] by simp [srt]];exact .inl ⟨rfl,rfl⟩) rfl⟩
 ·have hcell:∀ j,j < xs.length→w.cell? ⟨b,o + j,none⟩ = some (I (xs.getD j 0))∧w.frozen? ⟨b,o + j,none⟩ = false:=fun j hj=>by
   have hg:=Is_get xs j hj
   rw [← h4,List.getElem?_take,if_pos (by omega),List.getElem?_drop] at hg
   exact ⟨blk_cell hb (by simpa using hg),frozen_of_row w b (o + j) cur _ hb⟩
  have hH:Sort.Holds (Value.int .i64) w b o xs.toArray:=fun j hj=>by
   have hj':j < xs.length:=by simpa using hj
   obtain ⟨h5,h6⟩:=hcell j hj'
   refine ⟨?_,h6⟩
   rw [h5]
   simp [List.getD_eq_getElem?_getD,hj']
  rw [hl] at fin ⊢
  refine (calls_of_every_depth fun D=>AnyS.slices_Sort_int_in laysSort D b o cap xs w hH (lt_of_heap hb) hlen).mono fun e w' ⟨he,n,os,hw⟩=>?_
  subst he
  refine ⟨_,rfl,fin _ _ ?_ ?_ rfl⟩
  ·subst hw
   refine ⟨rfl,rfl,rfl,by simp [Sort.ahead],fun k hk hn=>?_⟩
   have hkb:k ≠ b:=fun q=>hn (by simp [q,Value.ownBlock])
   rw [Sort.heap_grow_old _ _ (by simpa [Sort.ahead] using hk)]
   simp [Sort.putRow,Sort.mapBlock,Array.getElem?_modify,Ne.symm hkb,Sort.ahead]
  ·refine .inr ⟨b,o,cap,Sort.putCells (Value.int .i64) o (srt xs).toArray cur,by rw [Is_len,srt_length],?_,by rw [Is_len,srt_length];omega,h2,by simp [Sort.putCells];omega,?_⟩
   ·subst hw
    rw [Sort.heap_grow_old _ _ (by simpa [Sort.ahead] using lt_of_heap hb)]
    simp [Sort.putRow,Sort.mapBlock,Array.getElem?_modify,hb,Sort.ahead,Sort.onCells,srt]
   ·apply List.ext_getElem?
    intro j
    rw [List.getElem?_take,List.getElem?_drop]
    by_cases hj:j < xs.length
    ·have hj2:o + j < cur.size:=by omega
     have hj3:j < (srt xs).length:=by rw [srt_length];exact hj
     rw [Is_len,srt_length,if_pos hj]
     simp [Sort.putCells,hj,hj2,hj3,srt_length]
    ·rw [Is_len,srt_length,if_neg hj]
     symm
     rw [List.getElem?_eq_none]
     rw [Is_len,srt_length];omega
open Go Go.Proofs Go.RowKit
open Go.ChangeMaps (setBlock)
def lmp (b:Nat) (f:Int→Option Value):Ch where
 wr:=fun _=>False
 rd:=fun _=>False
 bd:=fun x=>x = b
 P:=fun w=>MapF w b f
 loc:=fun {w w'} h hb=>by obtain ⟨es,c,h1,h2⟩:=h.ex;exact ⟨es,c,(hb b (.inr (.inr rfl))).trans h1,h2⟩
 lt:=fun h hb=>by rcases hb with hb | hb | rfl;exact hb.elim;exact hb.elim;exact h.lt
def lme (b:Nat) (es:Array MapEntry) (c:Nat):Ch where
 wr:=fun _=>False
 rd:=fun _=>False
 bd:=fun x=>x = b
 P:=fun w=>w.heap[b]? = some (.map es c)
 loc:=fun h hb=>(hb b (.inr (.inr rfl))).trans h
 lt:=fun h hb=>by rcases hb with hb | hb | rfl;exact hb.elim;exact hb.elim;exact lt_of_heap h
def mit (r b since:Nat) (seen:Array Nat) (c:Nat):Ch where
 wr:=fun x=>x = r
 rd:=fun _=>False
 bd:=fun _=>False
 P:=fun w=>w.heap[r]? = some (.mapIter (some b) since seen c)
 loc:=fun h hb=>(hb r (.inl rfl)).trans h
 lt:=fun h hb=>by rcases hb with rfl | hb | hb;exact lt_of_heap h;exact hb.elim;exact hb.elim
instance (b:Nat) (f:Int→Option Value):Lent (lmp b f):=⟨fun _=>⟨fun h=>h,fun h=>h⟩⟩
instance (b:Nat) (es:Array MapEntry) (c:Nat):Lent (lme b es c):=⟨fun _=>⟨fun h=>h,fun h=>h⟩⟩
instance (r b since:Nat) (seen:Array Nat) (c:Nat):NoB (mit r b since seen c):=⟨fun _ h=>h⟩
theorem has_lent {F:List Ch} {c:Ch} (h:c ∈ F) (hl:∀ b,¬ c.wr b∧¬ c.rd b):Has F c:=⟨fun _ hw=>hw.h _ h,fun b=>(hl b).1,fun b=>(hl b).2,fun _ hb=>⟨_,h,hb⟩⟩
theorem Fit.app (L J:List Ch):Fit (L ++ J) J L:=Im.perm List.perm_append_comm
theorem Fit.comm (L J:List Ch):Fit (J ++ L) (L ++ J) []:=by unfold Fit;rw [List.append_nil];exact Im.perm List.perm_append_comm
structure SeqC (P:Program) (f:FuncId) (cap:Array Value) (pre:List Ch) (N:Nat) (Done:List Int→Prop):Prop where
 run:∀ {α:Type} (l:Nat) (J:α→List Ch) (el:α→List Int) (a0:α),el a0 = []→(∀ a,∀ c ∈ J a,∀ b,¬ c.bd b) →
  (∀ a x,(el a).length < N→Ty P l [I x] [] (J a) fun ok B=>ok = true∧∃ a',el a' = el a ++ [x]∧B = J a') →
  Tr P f (yv l :: cap.toList) pre (J a0) fun _ B=>∃ a,Done (el a)∧B = J a
 done:∀ zs,Done zs→zs.length ≤ N
 lent:∀ c ∈ pre,∀ b,¬ c.wr b∧¬ c.rd b
section
variable {P:Program} {E:Env P} {n:Sh} {X:Cx} {s:List K} {fr:Fr} {A A' B F:List Ch} {ops:Array Oper} {rest:List Oper} {d:Nat} {ty:TypeId} {pos:String} {after:Array Edge} {v z:Value} {t T:TypeId} {x y:Operand} {c0:Code}
 {b r since:Nat} {f:Int→Option Value} {kt et:TypeId} {es:Array MapEntry} {clock:Nat} {seen:Array Nat}
end
attribute [local irreducible] Fit pt own ro vw mpc lpt vels rels mow lrc dfr
attribute [local irreducible] lmp lme mit
theorem AppendSeq_tr {f:FuncId} {cap:Array Value} {pre:List Ch} {N:Nat} {Done:List Int→Prop} (h:SeqC Tryz.prog f cap pre N Done) (hN:N ≤ 17592186044416) :
  Tr Tryz.prog 191 [nS,.func (.func f) #[] cap] pre [] fun v D=>∃ zs,Done zs∧D = [own 3 v (Is zs)]:=by
 refine Tr.enterM env _ Tryz.func191 (by kernel_rfl) rfl Tryz.ntmps191 rfl h.lent fun w0=>?_
 refine TC.im (own_nil 3 _) ?_
 repeat' first|refine bx1 fun b=>?_|(refine wo ?_;first|refine oa ?_)|refine sq ?_|refine rg ?_|refine xc ?_|refine nl ?_|refine bk ?_
 refine TC.range pre [pt b [nS] 22,own 3 nS (Is [])] (fun l rec Dm pend B'=>pend = none∧∃ v zs,Done zs∧B' = [dfr Dm,pt b [v] 22,own 3 v (Is zs)]) ?_ ?_ (hp:=fun c hc=>has_lent (by simp [hc]) (h.lent c hc))
 ·intro rec l Dm hr
  refine (h.run (α:=Value × List Int) l (fun a=>[lrc l rec .ready none,dfr Dm,pt b [a.1] 22,own 3 a.1 (Is a.2)]) (·.2) (nS,[]) rfl (fun a=>by (repeat (first | exact nb0 | refine nb1 ?_));first | done | fail) ?_).mono ?_
  ·rintro ⟨v,zs⟩ x hx
   dsimp only at hx ⊢
   refine Ty.intro env hr has00 fun w1=>?_
   refine TC.one (v:=v) (xs:=Is zs) fun hv=>?_
   repeat' first|refine xbeg ?_|refine slii [x] fun v1=>?_|(refine wo ?_;first|refine oa ?_|refine ld ?_)|refine rg ?_|refine nl ?_|refine bk ?_
   refine api (v:=v) (l:=zs) (news:=[x]) fun v2=>?_
   refine TO.one (v:=v2) (xs:=Is (zs ++ [x])) fun hv2=>?_
   repeat' first|(refine wo ?_;first|refine sr ?_)|refine nl ?_|refine xb ?_
   exact yn ⟨rfl,(v2,zs ++ [x]),rfl,rfl⟩
  ·rintro v B ⟨⟨v,zs⟩,hD,rfl⟩
   exact ⟨.ready,none,_,rfl,by decide,rfl,v,zs,hD,rfl⟩
 ·rintro l rec Dm pend B' ⟨rfl,v,zs,hD,rfl⟩
  show TX env _ _ _ _ _ _
  repeat' first|(refine wo ?_;first|refine oa ?_|refine ld ?_)|refine sq ?_|refine rg ?_|refine xc ?_|refine nl ?_|refine rt ?_|refine xb ?_
  exact m1 ⟨zs,hD,rfl⟩
theorem Sorted_tr {f:FuncId} {cap:Array Value} {pre:List Ch} {N:Nat} {Done:List Int→Prop} (h:SeqC Tryz.prog f cap pre N Done) (hN:N ≤ 17592186044416) :
  Tr Tryz.prog 166 [.func (.func f) #[] cap] pre [] fun v D=>∃ zs,Done zs∧D = [own 3 v (Is (srt zs))]:=by
 have hC:Tr Tryz.prog 179 [.func (.func f) #[] cap] pre [] fun v D=>∃ zs,Done zs∧D = [own 3 v (Is zs)]:=by
  refine Tr.enter env _ Tryz.func179 (by kernel_rfl) rfl Tryz.ntmps179 rfl h.lent fun w0=>?_
  repeat' first|(refine wo ?_;first|refine oa ?_)|refine sq ?_|refine rg ?_|refine xc ?_|refine nl ?_
  refine ca (AppendSeq_tr h hN) ?_ (hs:=Fit.nil) (hp:=fun c hc=>has_lent (by simp [hc]) (h.lent c hc))
  rintro v _ ⟨zs,hD,rfl⟩
  repeat' first|(refine wo ?_;first|refine oa ?_)|refine xc ?_|refine nl ?_|refine rt ?_
  exact r1 ⟨zs,hD,rfl⟩
 refine Tr.enter env _ Tryz.func166 (by kernel_rfl) rfl Tryz.ntmps166 rfl h.lent fun w0=>?_
 repeat' first|(refine wo ?_;first|refine oa ?_)|refine sq ?_|refine rg ?_|refine xc ?_|refine nl ?_
 refine ca hC ?_ (hs:=Fit.nil) (hp:=fun c hc=>has_lent (by simp [hc]) (h.lent c hc))
 rintro v _ ⟨zs,hD,rfl⟩
 have hl:=h.done zs hD
 repeat' first|(refine wo ?_;first|refine oa ?_)|refine sq ?_|refine rg ?_|refine xc ?_|refine nl ?_
 refine ca (Sort_tr v zs (by omega)) ?_
 rintro _ _ ⟨rfl,rfl⟩
 repeat' first|(refine wo ?_;first|refine oa ?_)|refine sq ?_|refine rg ?_|refine xc ?_|refine nl ?_|refine rt ?_
 exact r1 ⟨zs,hD,rfl⟩
end Go.Art
namespace Go.Art
open Go Go.Proofs Go.RowKit
abbrev c64 (n:Int):BitVec 64:=BitVec.ofInt 64 n
abbrev bshr (p:BitVec 64) (k:Int):BitVec 64:=p >>> k.toNat
def gold:BitVec 64:=c64 11400714819323198485
def stir1 (z:BitVec 64):BitVec 64:=(z ^^^ bshr z 30) * c64 13787848793156543929
def stir2 (z:BitVec 64):BitVec 64:=(z ^^^ bshr z 27) * c64 10723151780598845931
def stir3 (z:BitVec 64):BitVec 64:=z ^^^ bshr z 31
def stir (x:BitVec 64):BitVec 64:=stir3 (stir2 (stir1 (x + gold)))
def lim (n:Nat):Nat:=18446744073709551615 - 18446744073709551616 % n
def ginv:BitVec 64:=c64 17428512612931826493
theorem gold_ginv:gold * ginv = 1#64:=by decide +kernel
theorem stir_neg:stir (-gold) = 0#64:=by decide +kernel
def farG (g gi st:BitVec 64):Nat:=((-g - st) * gi).toNat
theorem farG_step (g gi st:BitVec 64) (hg:g * gi = 1#64) (h:farG g gi st ≠ 0):farG g gi (st + g) < farG g gi st:=by
 have e1 : -g - (st + g) = (-g - st) + -g:=by
  simp only [BitVec.sub_eq_add_neg,BitVec.neg_add]
  rw [BitVec.add_assoc]
 have e:(-g - (st + g)) * gi = (-g - st) * gi - 1#64:=by
  rw [e1,BitVec.add_mul,BitVec.neg_mul,hg]
  exact (BitVec.sub_eq_add_neg _ _).symm
 unfold farG at *
 rw [e,BitVec.toNat_sub]
 have:=((-g - st) * gi).isLt
 have h1:(1#64).toNat = 1:=rfl
 omega
theorem farG_zero (g gi st:BitVec 64) (hg:g * gi = 1#64) (h:farG g gi st = 0):st = -g:=by
 unfold farG at h
 have h0:(-g - st) * gi = 0#64:=BitVec.eq_of_toNat_eq (by simpa using h)
 have h1:(-g - st) * gi * g = 0#64 * g:=by rw [h0]
 rw [BitVec.mul_assoc,BitVec.mul_comm gi g,hg,BitVec.mul_one,BitVec.zero_mul] at h1
 have h2 : -g - st + st = 0#64 + st:=by rw [h1]
 rw [BitVec.sub_add_cancel,BitVec.zero_add] at h2
 exact h2.symm
def far (st:BitVec 64):Nat:=farG gold ginv st
theorem far_step (st:BitVec 64) (h:far st ≠ 0):far (st + gold) < far st:=farG_step gold ginv st gold_ginv h
theorem far_zero (st:BitVec 64) (h:far st = 0):st = -gold:=farG_zero gold ginv st gold_ginv h
theorem far_stop (st:BitVec 64) (n:Nat) (h:¬ (stir st).toNat ≤ lim n):far st ≠ 0:=fun e=>by
 rw [far_zero st e,stir_neg] at h
 exact h (Nat.zero_le _)
theorem c64_toNat {n:Int} (h:0 ≤ n∧n < 18446744073709551616):(c64 n).toNat = n.toNat:=by rw [BitVec.toNat_ofInt];omega
theorem c64_ne {n:Int} (h:1 ≤ n∧n < 18446744073709551616):c64 n ≠ 0#64:=fun e=>by
 have:=congrArg BitVec.toNat e
 rw [c64_toNat (by omega)] at this
 have h0:(0#64).toNat = 0:=rfl
 omega
theorem over_toNat {n:Int} (h:1 ≤ n∧n ≤ 1099511627776):(-(c64 n) % c64 n).toNat = 18446744073709551616 % n.toNat:=by
 rw [BitVec.toNat_umod,BitVec.toNat_neg,c64_toNat (by omega)]
 have h1:(2 ^ 64 - n.toNat) % 2 ^ 64 = 18446744073709551616 - n.toNat:=by omega
 rw [h1]
 have h2:18446744073709551616 = (18446744073709551616 - n.toNat) + n.toNat:=by omega
 conv=>rhs;rw [h2,Nat.add_mod_right]
theorem lim_toNat {n:Int} (h:1 ≤ n∧n ≤ 1099511627776):(c64 18446744073709551615 - (-(c64 n) % c64 n)).toNat = lim n.toNat:=by
 have h1:=over_toNat h
 have h2:=Nat.mod_lt 18446744073709551616 (show 0 < n.toNat by omega)
 rw [BitVec.toNat_sub,h1,c64_toNat (by omega)]
 unfold lim
 omega
def saccN (n:Nat):Nat→BitVec 64→BitVec 64
 | 0,st=>st
 | f + 1,st=>if (stir st).toNat ≤ lim n then st else saccN n f (st + gold)
theorem saccN_yes {n f:Nat} {st:BitVec 64} (h:(stir st).toNat ≤ lim n):saccN n (f + 1) st = st:=by unfold saccN;exact if_pos h
theorem saccN_no {n f:Nat} {st:BitVec 64} (h:¬ (stir st).toNat ≤ lim n):saccN n (f + 1) st = saccN n f (st + gold):=by
 show (if (stir st).toNat ≤ lim n then st else saccN n f (st + gold)) = saccN n f (st + gold)
 exact if_neg h
theorem saccN_more (n:Nat) (f:Nat):∀ (g:Nat) (st:BitVec 64),far st < f→far st < g→saccN n f st = saccN n g st:=by
 induction f with
 | zero=>intro g st h;exact absurd h (Nat.not_lt_zero _)
 | succ f ih=>
  intro g st h1 h2
  cases g with
  | zero=>exact absurd h2 (Nat.not_lt_zero _)
  | succ g=>
   by_cases h:(stir st).toNat ≤ lim n
   ·rw [saccN_yes h,saccN_yes h]
   ·rw [saccN_no h,saccN_no h]
    have:=far_step st (far_stop st n h)
    exact ih g _ (by omega) (by omega)
def sacc (n:Nat) (st:BitVec 64):BitVec 64:=saccN n (far st + 1) st
theorem sacc_yes {n:Nat} {st:BitVec 64} (h:(stir st).toNat ≤ lim n):sacc n st = st:=saccN_yes h
theorem sacc_no {n:Nat} {st:BitVec 64} (h:¬ (stir st).toNat ≤ lim n):sacc n st = sacc n (st + gold):=by
 have:=far_step st (far_stop st n h)
 unfold sacc
 rw [saccN_no h]
 exact saccN_more n _ _ _ (by omega) (by omega)
def sdraw (n:Nat) (st:BitVec 64):Nat × BitVec 64:=((stir (sacc n st)).toNat % n,sacc n st + gold)
theorem sdraw_lt {n:Nat} (h:0 < n) (st:BitVec 64):(sdraw n st).1 < n:=Nat.mod_lt _ h
def seedOf (seed block id:BitVec 64):BitVec 64:=stir (stir (stir seed + block) + id)
section
variable {P:Program} {E:Env P} {n:Sh} {X:Cx} {s:List K} {fr:Fr} {A A' G:List Ch} {ops:Array Oper} {rest:List Oper} {d:Nat} {ty t t':TypeId} {pos:String} {after:Array Edge} {x y:Operand} {p q:BitVec 64}
theorem uad (k:TO E n X s ops rest ((d,U (p + q)) :: fr) A) (hx:ev fr x = some (U p):=by first | rfl | exact evU_const (by decide)) (hy:ev fr y = some (U q):=by first | rfl | exact evU_const (by decide)) (hd:Nat.blt d n.n = true:=by rfl) :
  TO E n X s ops (⟨some d,.binOp .add t x y t',ty,pos,after,none⟩ :: rest) fr A:=TO.val (fun _ _=>R_uadd hx hy) k hd
theorem usb (k:TO E n X s ops rest ((d,U (p - q)) :: fr) A) (hx:ev fr x = some (U p):=by first | rfl | exact evU_const (by decide)) (hy:ev fr y = some (U q):=by first | rfl | exact evU_const (by decide)) (hd:Nat.blt d n.n = true:=by rfl) :
  TO E n X s ops (⟨some d,.binOp .sub t x y t',ty,pos,after,none⟩ :: rest) fr A:=TO.val (fun _ _=>R_usub hx hy) k hd
theorem uml (k:TO E n X s ops rest ((d,U (p * q)) :: fr) A) (hx:ev fr x = some (U p):=by first | rfl | exact evU_const (by decide)) (hy:ev fr y = some (U q):=by first | rfl | exact evU_const (by decide)) (hd:Nat.blt d n.n = true:=by rfl) :
  TO E n X s ops (⟨some d,.binOp .mul t x y t',ty,pos,after,none⟩ :: rest) fr A:=TO.val (fun _ _=>R_umul hx hy) k hd
theorem uxr (k:TO E n X s ops rest ((d,U (p ^^^ q)) :: fr) A) (hx:ev fr x = some (U p):=by first | rfl | exact evU_const (by decide)) (hy:ev fr y = some (U q):=by first | rfl | exact evU_const (by decide)) (hd:Nat.blt d n.n = true:=by rfl) :
  TO E n X s ops (⟨some d,.binOp .xor t x y t',ty,pos,after,none⟩ :: rest) fr A:=TO.val (fun _ _=>R_uxor hx hy) k hd
theorem urm (k:TO E n X s ops rest ((d,U (p % q)) :: fr) A) (h:q ≠ 0#64:=by assumption) (hx:ev fr x = some (U p):=by first | rfl | exact evU_const (by decide)) (hy:ev fr y = some (U q):=by first | rfl | exact evU_const (by decide)) (hd:Nat.blt d n.n = true:=by rfl) :
  TO E n X s ops (⟨some d,.binOp .rem t x y t',ty,pos,after,none⟩ :: rest) fr A:=TO.val (fun _ _=>R_urem hx hy h) k hd
theorem ulq (k:TO E n X s ops rest ((d,.bool (decide (p.toNat ≤ q.toNat))) :: fr) A) (hx:ev fr x = some (U p):=by first | rfl | exact evU_const (by decide)) (hy:ev fr y = some (U q):=by first | rfl | exact evU_const (by decide)) (hd:Nat.blt d n.n = true:=by rfl) :
  TO E n X s ops (⟨some d,.binOp .leq t x y t',ty,pos,after,none⟩ :: rest) fr A:=TO.val (fun _ _=>R_uleq hx hy) k hd
theorem ush {k':IntKind} {z:Int} (k:TO E n X s ops rest ((d,U (p >>> z.toNat)) :: fr) A) (hx:ev fr x = some (U p):=by rfl) (hy:ev fr y = some (.int k' z):=by rfl) (hz:0 ≤ z∧z ≤ 64:=by omega) (hd:Nat.blt d n.n = true:=by rfl) :
  TO E n X s ops (⟨some d,.binOp .shr t x y t',ty,pos,after,none⟩ :: rest) fr A:=TO.val (fun _ _=>R_ushr hx hy hz) k hd
theorem ung (k:TO E n X s ops rest ((d,U (-p)) :: fr) A) (hx:ev fr x = some (U p):=by rfl) (hd:Nat.blt d n.n = true:=by rfl):TO E n X s ops (⟨some d,.unOp .neg t x,ty,pos,after,none⟩ :: rest) fr A:=TO.val (fun _ _=>R_uneg hx) k hd
theorem uto {m:Int} (k:TO E n X s ops rest ((d,U (c64 m)) :: fr) A) (hx:ev fr x = some (I m):=by rfl) (ht:lk E.und t' = some (.int .u64):=by rfl) (hs:(lk E.und t).isSome = true:=by rfl) (hd:Nat.blt d n.n = true:=by rfl):TO E n X s ops (⟨some d,.convert t t' x,ty,pos,after,none⟩ :: rest) fr A:=TO.val (fun _ _=>R_toU ht hs hx) k hd
theorem uof (k:TO E n X s ops rest ((d,I p.toNat) :: fr) A) (hx:ev fr x = some (U p):=by rfl) (h:p.toNat ≤ 9223372036854775807:=by omega) (ht:lk E.und t' = some (.int .i64):=by rfl) (hs:(lk E.und t).isSome = true:=by rfl) (hd:Nat.blt d n.n = true:=by rfl) :
  TO E n X s ops (⟨some d,.convert t t' x,ty,pos,after,none⟩ :: rest) fr A:=TO.val (fun _ _=>R_ofU ht hs hx h) k hd
theorem ife {ms:Array (String × TypeId)} {tt:TypeId} {v:Value} (k:TO E n X s ops rest ((d,.bool false) :: fr) A) (hx:ev fr x = some (.iface tt v):=by rfl) (ht:lk E.und t = some (.interface ms):=by rfl) (hd:Nat.blt d n.n = true:=by rfl) :
  TO E n X s ops (⟨some d,.binOp .eql t x (.const .nilIface) t',ty,pos,after,none⟩ :: rest) fr A:=TO.val (fun _ _=>R_ifEqNil ht hx) k hd
theorem onep_nil:∀ p ∈ ([]:List (Nat × Value)),p.2.oneCell' = true:=fun _ h=>nomatch h
theorem onep_cons {p0:Nat × Value} {l:List (Nat × Value)} (h:p0.2.oneCell' = true) (k:∀ p ∈ l,p.2.oneCell' = true):∀ p ∈ p0 :: l,p.2.oneCell' = true:=fun x hx=>by
 rcases List.mem_cons.1 hx with rfl | hx
 ·exact h
 ·exact k x hx
theorem bdz {sz by_:Nat} {cs:List Value} {fl:List Field} {zs:List Value} {pl:List (Nat × Nat)} {parts:List (Nat × Operand)} {ps:List (Nat × Value)} (k:TO E n X s ops rest ((d,.agg cs.toArray) :: fr) A) (hv:evps fr parts = some ps:=by rfl)
  (h1:∀ p ∈ ps,p.2.oneCell' = true:=by (repeat (first | exact onep_nil | refine onep_cons (by first | rfl | assumption) ?_));first | done | fail) (ht:lk E.und t = some (.struct fl.toArray):=by rfl) (he:lk E.inf t = some (.agg zs.toArray,sz,by_):=by rfl)
  (hpl:places E.inf fl = some pl:=by rfl) (hs:setParts1 pl zs ps = some cs:=by rfl) (hd:Nat.blt d n.n = true:=by rfl):TO E n X s ops (⟨some d,.build t parts.toArray,ty,pos,after,none⟩ :: rest) fr A:=bdc h1 k hv ht he hpl hs hd
theorem civ {f:FuncId} {r:Operand} {nm:String} {args:List Operand} {ats:Array TypeId} {vs:List Value} {pre B F:List Ch} {R:Value→List Ch→Prop} {tt:TypeId} {x0 rv:Value} (hf:Tr P f (rv :: vs) pre B R) (k:∀ v D,R v D→TO E n X s ops rest ((d,v) :: fr) (D ++ F))
  (hm:∀ w:World,(method (P.types.size + Made.depth) tt x0 nm).run P w = .ok (f,rv) w) (hr:ev fr r = some (.iface tt x0):=by rfl) (hv:evs fr args = some vs:=by rfl) (hs:Fit A B F:=by exact fitA)
  (hp:∀ c ∈ pre,Has F c:=by (repeat (first | exact has0 | refine has1 hasA ?_));first | done | fail) (hd:Nat.blt d n.n = true:=by rfl):TO E n X s ops (⟨some d,.call ⟨.invoke r nm,args.toArray,ats⟩,ty,pos,after,none⟩ :: rest) fr A:=
 ⟨fun w hw=>SO_invoke hr hv (hm w) hd (hf.at hs hp hw) fun v w' ⟨D,hR,hS⟩=>(k v D hR).run w' hS⟩
theorem mct {w0:World} {A0 D:List Ch} {cl:List Value} {T ct:TypeId} {dt:TypeDesc} {R':Value→List Ch→Prop} {fn:Func} {t1 t2 nn Dm b:Nat} {v1 v2:Value} (h:R' (.tuple #[v1,v2]) D) (hr:fn.results = #[.cell t1 ct,.tmp t2]:=by rfl) (ht:lk E.und ct = some dt:=by rfl) (hg:aggB dt = false:=by rfl)
  (hv:get fr t1 = some (ptr b):=by rfl) (hv2:get fr t2 = some v2:=by rfl) (hm:Tk (dfr Dm) A A':=by exact tkA) (hc:pt b (v1 :: cl) T ∈ A':=by exact memA) (hf:Fit A' D G:=by exact fitA) (nb:∀ c ∈ D,∀ b,¬ c.bd b:=by (repeat (first | exact nb0 | refine nb1 ?_));first | done | fail) :
  TX E ⟨nn,[mark Dm],none⟩ ⟨bodyPostM (FF none) 0 P fn (RetP (PR w0 A0 R')),w0,A0⟩ [] .ret fr A:=⟨fun w hw=>
 SX_retM rfl ((hw.im hm).mem (List.Mem.head _)) fun a ha w' hU=>⟨.tuple #[v1,v2],res_ct (E:=E) ha hr ht hg hv (by
  have h1:=hw.im hm
  have h2:St ⟨bodyPostM (FF none) 0 P fn (RetP (PR w0 A0 R')),w0,A0⟩ A' w':=h1.step (A:=[dfr Dm]) (B:=[]) (F:=A') (Mv.upd hU (fun b hb=>.inl (wrs_one.2 (List.mem_singleton.1 hb))) (fun b hb=>absurd hb wrs_nil) (fun b hb=>absurd hb rds_nil)) (Sat.nil _) (by simp)
  exact blk_cell (h2.mem hc) rfl) hv2,PR.mkM h hw hm hf nb hU⟩⟩
end
theorem fit_mid (B:List Ch) (a l:Ch):Fit (B ++ [a,l]) (B ++ [a]) [l]:=by
 refine Im.perm ?_
 rw [show B ++ [a,l] = (B ++ [a]) ++ [l] by simp]
attribute [local irreducible] Fit pt own ro vw mpc lpt vels rels mow lrc dfr
abbrev TLo:TypeId:=202
def ldraw (n:Int) (st:BitVec 64) (used:Int):(Int × Int) × (BitVec 64 × Int):=if 1 ≤ n∧n ≤ 1099511627776 then ((((sdraw n.toNat st).1:Int),0),((sdraw n.toNat st).2,used + 1)) else ((0,3),(st,used))
theorem Stir_tr (x:BitVec 64):Tr Tryz.prog 156 [U x] [] [] fun v D=>v = U (stir x)∧D = []:=by
 refine Tr.enter env _ Tryz.func156 (by kernel_rfl) rfl Tryz.ntmps156 rfl (by repeat (first | exact has00 | refine has01 ?_)) fun w0=>?_
 repeat' first|refine uad ?_|refine uml ?_|refine uxr ?_|refine ush ?_|(refine wo ?_;first|refine oa ?_)|refine sq ?_|refine rg ?_|refine xc ?_|refine nl ?_|refine rt ?_
 exact r1 ⟨rfl,rfl⟩
abbrev TSd:TypeId:=198
abbrev TpS:TypeId:=195
abbrev lotP (b r:Nat) (st:BitVec 64) (used:Int) (br:Bool):List Ch:=[pt b [.iface TpS (ptr r),I used,.bool br] TLo,pt r [U st] TSd]
theorem Seeded_tr (x y z:BitVec 64):Tr Tryz.prog 131 [U x,U y,U z] [] [] fun v D=>∃ b r,v = ptr b∧D = lotP b r (seedOf x y z) 0 false:=by
 refine Tr.enter env _ Tryz.func131 (by kernel_rfl) rfl Tryz.ntmps131 rfl (by repeat (first | exact has00 | refine has01 ?_)) fun w0=>?_
 repeat' first|(refine gca ?_;first|(refine ca (Stir_tr _) ?_;rintro _ _ ⟨rfl,rfl⟩))|refine uad ?_|refine bdz ?_|refine bx fun r=>?_|(refine wo ?_;first|refine oa ?_)|refine sq ?_|refine rg ?_|refine xc ?_|refine nl ?_|refine rt ?_
 exact r1 ⟨_,_,rfl,rfl⟩
theorem words_tr (r:Nat):Tr Tryz.prog 237 [ptr r] [] [] fun v D=>∃ c,v = .func (.func 238) #[] #[ptr c]∧D = [pt c [ptr r] TpS]:=by
 refine Tr.enter env _ Tryz.func237 (by kernel_rfl) rfl Tryz.ntmps237 rfl (by repeat (first | exact has00 | refine has01 ?_)) fun w0=>?_
 repeat' first|refine bx1 fun c=>?_|(refine wo ?_;first|refine oa ?_)|refine sq ?_|refine rg ?_|refine xc ?_|refine nl ?_|refine rt ?_
 exact r1 ⟨c,rfl,rfl⟩
theorem words1_tr (c r l m:Nat) (st:BitVec 64) (J:List Ch) (R:BitVec 64→List Ch→Prop)
  (hy:∀ w,¬ w.toNat ≤ lim m→Ty Tryz.prog l [U w] [] J fun ok B=>ok = true∧B = J) (hz:∀ w,w.toNat ≤ lim m→Ty Tryz.prog l [U w] [] J fun ok B=>ok = false∧R w B∧∀ c ∈ B,∀ b,¬ c.bd b) :
  Tr Tryz.prog 238 [yv l,ptr c] [lpt c [ptr r] TpS] (J ++ [pt r [U st] TSd]) fun _ B=>∃ B',R (stir (sacc m st)) B'∧B = B' ++ [pt r [U (sacc m st + gold)] TSd]:=by
 refine Tr.enter env _ Tryz.func238 (by kernel_rfl) rfl Tryz.ntmps238 rfl (by repeat (first | exact has00 | refine has01 ?_)) fun w0=>?_
 refine TC.im (B:=pt r [U st] TSd :: lpt c [ptr r] TpS :: J) (Im.perm (show (lpt c [ptr r] TpS :: (J ++ [pt r [U st] TSd])).Perm (pt r [U st] TSd :: lpt c [ptr r] TpS :: J) from (List.Perm.cons _ (List.perm_append_comm (l₁:=J) (l₂:=[pt r [U st] TSd]))).trans (List.Perm.swap _ _ _))) ?_
 repeat' first|refine bk ?_
 refine TC.loop (ι:=BitVec 64) (fun _=>[]) (fun s=>pt r [U s] TSd :: lpt c [ptr r] TpS :: J) (fun s=>sacc m s = sacc m st) far st [0,1] rfl ?_ (hf:=Fit.all)
 rintro s hs
 have hN:(pt r [U s] TSd :: lpt c [ptr r] TpS :: J) ++ [] = pt r [U s] TSd :: lpt c [ptr r] TpS :: J:=List.append_nil _
 refine TC.im (B:=pt r [U s] TSd :: lpt c [ptr r] TpS :: J) (Im.perm (by rw [hN])) ?_
 have hF:∀ s,Fit (pt r [U s] TSd :: lpt c [ptr r] TpS :: J) J [pt r [U s] TSd,lpt c [ptr r] TpS]:=fun s=>Fit.app [pt r [U s] TSd,lpt c [ptr r] TpS] J
 repeat' first|(refine gca ?_;first|(refine ca (Stir_tr _) ?_;rintro _ _ ⟨rfl,rfl⟩))|refine uad ?_|(refine wo ?_;first|refine oa ?_|refine ld ?_|refine ldl ?_|refine sr ?_)|refine sq ?_|refine rg ?_|refine xc ?_|refine nl ?_|refine bk ?_
 refine TO.im (B:=pt r [U (s + gold)] TSd :: lpt c [ptr r] TpS :: J) (Im.refl _) ?_
 by_cases hw:(stir s).toNat ≤ lim m
 ·refine cy (hz (stir s) hw) ?_ (hs:=hF _)
  rintro ok B ⟨rfl,hR,hnb⟩
  repeat' first|(refine wo ?_;first|refine oa ?_)|(refine gc ?_;first|refine ct ?_)|refine xc ?_|refine nl ?_|refine rt ?_
  rw [sacc_yes hw] at hs
  refine r0 (D:=B ++ [pt r [U (s + gold)] TSd]) (G:=[lpt c [ptr r] TpS]) ⟨B,by rw [← hs];exact hR,by rw [← hs]⟩ (hf:=?_) (nb:=?_)
  ·exact fit_mid B _ _
  ·intro x hx b hb
   rcases List.mem_append.1 hx with hx | hx
   ·exact hnb x hx b hb
   ·rw [List.mem_singleton.1 hx] at hb;exact (NoB.nb (c:=pt r [U (s + gold)] TSd)) b hb
 ·refine cy (hy (stir s) hw) ?_ (hs:=hF _)
  rintro ok B ⟨rfl,rfl⟩
  repeat' first|(refine wo ?_;first|refine oa ?_)|(refine gc ?_;first|refine cf ?_)|refine xc ?_|refine nl ?_|refine sk ?_|refine xb ?_
  rw [sacc_no hw] at hs
  refine lp (s + gold) hs (G:=[]) (hf:=?_) (hlt:=far_step s (far_stop s m hw))
  rw [List.append_nil]
  exact Fit.comm [pt r [U (s + gold)] TSd,lpt c [ptr r] TpS] _
theorem seedDraw_tr (r:Nat) (st:BitVec 64) (n:Int) (hn:1 ≤ n∧n ≤ 1099511627776):Tr Tryz.prog 236 [ptr r,I n] [] [pt r [U st] TSd]
  fun v D=>v = tup2 (I (sdraw n.toNat st).1) (.bool true)∧D = [pt r [U (sdraw n.toNat st).2] TSd]:=by
 have hnz:=c64_ne (n:=n) (by omega)
 have hlim:=lim_toNat hn
 refine Tr.enterM env _ Tryz.func236 (by kernel_rfl) rfl Tryz.ntmps236 rfl (by repeat (first | exact has00 | refine has01 ?_)) fun w0=>?_
 repeat' first|(refine gca ?_;first|(refine ca (words_tr r) ?_;rintro _ _ ⟨c,rfl,rfl⟩))|refine uto ?_|refine ung ?_|refine urm ?_|refine bx1 fun bn=>?_|refine al fun bo=>?_|(refine wo ?_;first|refine oa ?_|refine ld ?_|refine sr ?_)|refine sq ?_|refine rg ?_|refine xc ?_|refine nl ?_|refine bk ?_
 rename_i bx
 refine TC.range [lpt c [ptr r] TpS] [pt bo [U (-c64 n % c64 n)] 177,pt bx [I 0] 3,pt bn [I n] 3,pt r [U st] TSd]
  (fun l rec Dm pend B'=>pend = some (.exit 0)∧B' = [dfr Dm,pt bo [U (-c64 n % c64 n)] 177,pt bx [I (((stir (sacc n.toNat st)).toNat:Int) % n)] 3,pt bn [I n] 3,pt r [U (sdraw n.toNat st).2] TSd]) ?_ ?_
 ·intro rec l Dm hr
  refine (words1_tr c r l n.toNat st [lrc l rec .ready none,dfr Dm,pt bo [U (-c64 n % c64 n)] 177,pt bx [I 0] 3,pt bn [I n] 3]
   (fun w B=>B = [lrc l rec .done (some (.exit 0)),dfr Dm,pt bo [U (-c64 n % c64 n)] 177,pt bx [I ((w.toNat:Int) % n)] 3,pt bn [I n] 3]) ?_ ?_).mono ?_
  ·intro w hw
   have hw':¬ w.toNat ≤ (BitVec.ofInt 64 18446744073709551615 - -c64 n % c64 n).toNat:=fun h=>hw (by have e:=hlim;rw [← e];exact h)
   refine Ty.intro env hr has00 fun w1=>?_
   repeat' first|refine xbeg ?_|refine usb ?_|refine ulq ?_|(refine wo ?_;first|refine oa ?_|refine ld ?_)|(refine gc ?_;first|(refine ci (fun hB=>?_) (fun hB=>?_) <;> try (exfalso;omega)))|refine sq ?_|refine rg ?_|refine xc ?_|refine nl ?_|refine sk ?_|refine bk ?_|refine xb ?_
   exact yn ⟨rfl,rfl⟩
  ·intro w hw
   have hw':w.toNat ≤ (BitVec.ofInt 64 18446744073709551615 - -c64 n % c64 n).toNat:=by have e:=hlim;rw [← e] at hw;exact hw
   have hm1:=Int.emod_nonneg (w.toNat:Int) (show n ≠ 0 by omega)
   have hm2:=Int.emod_lt_of_pos (w.toNat:Int) (show 0 < n by omega)
   refine Ty.intro env hr has00 fun w1=>?_
   repeat' first|refine xbeg ?_|refine usb ?_|refine ulq ?_|(refine wo ?_;first|(refine ao ?_;first|refine umod ?_)|refine acw ?_|refine ucv ?_|refine oa ?_|refine ld ?_|refine sr ?_)|(refine gc ?_;first|(refine ci (fun hB=>?_) (fun hB=>?_) <;> try (exfalso;omega)))|refine sq ?_|refine rg ?_|refine xc ?_|refine nl ?_|refine bk ?_
   refine xo ?_
   refine ye ⟨rfl,rfl,?_⟩
   (repeat (first | exact nb0 | refine nb1 ?_))
  ·rintro v B ⟨B',rfl,rfl⟩
   exact ⟨.done,_,_,rfl,by decide,rfl,rfl⟩
 ·rintro l rec Dm pend B' ⟨rfl,rfl⟩
  show TC env _ _ _ _ _ _
  repeat' first|(refine wo ?_;first|refine oa ?_|refine ld ?_|refine sr ?_)|refine sq ?_|refine rg ?_|refine xc ?_|refine nl ?_|refine xe ?_|refine rt ?_
  have hv:((sdraw n.toNat st).1:Int) = ((stir (sacc n.toNat st)).toNat:Int) % n:=by
   show (((stir (sacc n.toNat st)).toNat % n.toNat:Nat):Int) = _
   rw [Int.natCast_emod,Int.toNat_of_nonneg (by omega)]
  exact mct (b:=bx) (cl:=[]) (T:=3) ⟨by rw [hv],rfl⟩
theorem none_tr (b r:Nat) (st:BitVec 64) (used:Int) (br:Bool):Tr Tryz.prog 175 [ptr b] [lpt b [.iface TpS (ptr r),I used,.bool br] TLo] [] fun v D=>v = .bool false∧D = []:=by
 refine Tr.enter env _ Tryz.func175 (by kernel_rfl) rfl Tryz.ntmps175 rfl (by repeat (first | exact has00 | refine has01 ?_)) fun w0=>?_
 repeat' first|refine ife ?_|refine ifn ?_|(refine wo ?_;first|(refine ao ?_;first|refine ipe ?_)|refine oa ?_|refine ldl ?_|refine gy ?_)|refine sq ?_|refine rg ?_|refine xc ?_|refine nl ?_|refine rt ?_
 exact r1 ⟨rfl,rfl⟩
theorem method_seeded (a:Addr) (w:World):(method (Tryz.prog.types.size + Made.depth) 195 (.pointer (some a)) "artesian/lots.draw").run Tryz.prog w = .ok (236,.pointer (some a)) w:=by kernel_rfl
theorem Draw_tr (b r:Nat) (st:BitVec 64) (used n:Int) (hu:0 ≤ used∧used ≤ 4611686018427387904):Tr Tryz.prog 163 [ptr b,I n] [] (lotP b r st used false)
  fun v D=>v = tup2 (I (ldraw n st used).1.1) (I (ldraw n st used).1.2)∧D = lotP b r (ldraw n st used).2.1 (ldraw n st used).2.2 false:=by
 have hl1:¬ (1 ≤ n∧n ≤ 1099511627776)→ldraw n st used = ((0,3),(st,used)):=fun h=>if_neg h
 refine Tr.enter env _ Tryz.func163 (by kernel_rfl) rfl Tryz.ntmps163 rfl (by repeat (first | exact has00 | refine has01 ?_)) fun w0=>?_
 repeat' first|(refine gca ?_;first|(refine ca (none_tr b r st used false) ?_;rintro _ _ ⟨rfl,rfl⟩))|(refine wo ?_;first|(refine ao ?_;first|refine oa ?_)|refine oa ?_|refine ld ?_|refine gy ?_|refine gn ?_|(refine gsi (fun hB=>?_) (fun hB=>?_) <;> try (exfalso;omega)))|(refine gc ?_;first|refine ct ?_|refine cf ?_|(refine ci (fun hB=>?_) (fun hB=>?_) <;> try (exfalso;omega)))|refine sq ?_|refine rg ?_|refine xc ?_|refine nl ?_|refine sk ?_|refine bk ?_|refine rt ?_|refine xb ?_
 ·rw [hl1 (by omega)];exact r2 ⟨rfl,rfl⟩
 ·rw [hl1 (by omega)];exact r2 ⟨rfl,rfl⟩
 have hn:1 ≤ n∧n ≤ 1099511627776:=by omega
 rw [show ldraw n st used = ((((sdraw n.toNat st).1:Int),0),((sdraw n.toNat st).2,used + 1)) from if_pos hn]
 refine civ (seedDraw_tr r st n hn) ?_ (method_seeded _)
 rintro _ _ ⟨rfl,rfl⟩
 repeat' first|(refine wo ?_;first|(refine ao ?_;first|refine aw ?_)|refine oa ?_|refine ld ?_|refine sr ?_)|(refine gc ?_;first|refine cf ?_)|refine sq ?_|refine rg ?_|refine xc ?_|refine nl ?_|refine sk ?_|refine rt ?_
 exact r2 ⟨rfl,rfl⟩
end Go.Art
