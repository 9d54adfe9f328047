/- Texts put together: M Y Env Ka Wg Bb Cl Sz Oa Ob Rm LaySort Srt Q Lt Ss Oo Ql Qm So Sg Al Qn Ct Rn Bg Ro Na LayMul LayLen LayLz Nb. Conditions: none. -/
import Derived.Test.YtpabbhpgikdhfaaGreatWPa
set_option linter.unusedSimpArgs false
set_option linter.unusedVariables false
namespace Go.Art
open Go Go.RowKit
theorem erase_list (es:Array MapEntry) (j:Nat):(es.eraseIdxIfInBounds j).toList = es.toList.eraseIdx j:=by
 unfold Array.eraseIdxIfInBounds
 split
 ·simp
 ·rename_i h;rw [List.eraseIdx_of_length_le (by simpa using h)]
theorem Tells.erase {es:Array MapEntry} {clock:Nat} {f:Int→Option Value} (h:Tells es clock f) {j:Nat} {e:MapEntry} (he:es[j]? = some e) {k:Int} (hek:e.key = I k):Tells (es.eraseIdxIfInBounds j) clock (delF f k):=by
 have hsub:∀ x,x ∈ (es.eraseIdxIfInBounds j).toList ↔ ∃ i:Nat,i ≠ j∧es[i]? = some x:=fun x=>by
  rw [erase_list,List.mem_eraseIdx_iff_getElem?];simp
 refine ⟨MapKept.stamped_erase h.st j,fun x hx=>?_,fun k' v=>?_⟩
 ·obtain ⟨i,_,hi⟩:=(hsub x).1 hx;exact h.ks x (mem_get.2 ⟨i,hi⟩)
 ·unfold delF
  by_cases hkk:k' = k
  ·subst hkk
   rw [if_pos rfl]
   constructor
   ·intro e;cases e
   ·rintro ⟨x,hx,h1,_⟩
    obtain ⟨i,hij,hi⟩:=(hsub x).1 hx
    exact absurd (keys_inj h.st.2.2 hi he (by rw [h1,hek])) hij
  ·rw [if_neg hkk,h.to]
   constructor
   ·rintro ⟨x,hx,h1,h2⟩
    obtain ⟨i,hi⟩:=mem_get.1 hx
    refine ⟨x,(hsub x).2 ⟨i,fun e'=>hkk ?_,hi⟩,h1,h2⟩
    subst e';rw [he] at hi;cases hi;rw [h1] at hek;injection hek
   ·rintro ⟨x,hx,h1,h2⟩
    obtain ⟨i,_,hi⟩:=(hsub x).1 hx
    exact ⟨x,mem_get.2 ⟨i,hi⟩,h1,h2⟩
section
variable {P:Program} {E:Env P} {n:Sh} {Q0:Exit→Act→World→Prop} {s:List K} {fr:Fr} {w:World} {ops:Array Oper} {rest:List Oper} {d:Nat} {ty:TypeId} {pos:String} {after:Array Edge} {v z:Value} {x y:Operand} {t kt et:TypeId} {b sz by_:Nat} {f:Int→Option Value} {k:Int}
theorem R_look (ht:lk E.und t = some (.map kt et)) (hk:lk E.und kt = some dI) (hx:ev fr x = some (mp b)) (hy:ev fr y = some (I k)) (hM:MapF w b f) (hf:f k = some v):OpV P n fr (.lookup t x y false) ty w v w:=⟨fun a ha _ _ _ _=>by
 obtain ⟨es,c,hb,hT⟩:=hM.ex
 rcases hT.find k with ⟨_,h2,_⟩ | ⟨j,e,h1,h2,h3,h4⟩
 ·rw [h2] at hf;cases hf
 ·rw [h4] at hf;cases hf
  simp only [execOp,ha.ev hx,ha.ev hy]
  simp [Instr.lookup,run_underlying (P:=P) (E.un ht),MapKept.run_getObj_map hb,MapKept.run_checkKey (E.un hk) (show MapKept.IsKey dI (I k) from rfl),MapKept.run_findKey (E.un hk) h1]⟩
theorem SO_delete {kt':TypeId} (ht:lk E.und t = some (.map kt et)) (hk:lk E.und kt = some dI) (hx:ev fr x = some (mp b)) (hy:ev fr y = some (I k)) (hM:MapF w b f)
  (h:∀ w',Upd w w' [b]→MapF w' b (delF f k)→SO E n Q0 s ops rest fr w'):SO E n Q0 s ops (⟨none,.call ⟨.builtin .delete,#[x,y],#[t,kt']⟩,ty,pos,after,none⟩ :: rest) fr w:=by
 obtain ⟨es,c,hb,hT⟩:=hM.ex
 have hK:MapKept.IsKey dI (I k):=rfl
 rcases hT.find k with ⟨h1,h1',h2⟩ | ⟨j,e,h1,h2,h3,h4⟩
 ·refine SO_n (v:=.tuple #[]) (w':=setO w b (.map es c)) ⟨fun a ha _ _ _ _=>?_⟩ (h _ (Upd.setO w b _) ⟨_,_,setO_same hb,?_⟩)
  ·simp only [execOp,resolve]
   simp [ha.ev hx,ha.ev hy,invoke,builtin,Builtin.delete_,run_underlying (P:=P) (E.un ht),MapKept.run_getObj_map hb,MapKept.run_checkKey (E.un hk) hK,MapKept.run_findKey (E.un hk) h1,MapKept.run_setObj_map _ hb]
   rfl
  ·have:delF f k = f:=by funext k';unfold delF;split;(rename_i e;rw [e,h1']);rfl
   rw [this];exact hT
 ·refine SO_n (v:=.tuple #[]) (w':=setO w b (.map (es.eraseIdxIfInBounds j) c)) ⟨fun a ha _ _ _ _=>?_⟩ (h _ (Upd.setO w b _) ⟨_,_,setO_same hb,hT.erase h2 h3⟩)
  simp only [execOp,resolve]
  simp [ha.ev hx,ha.ev hy,invoke,builtin,Builtin.delete_,run_underlying (P:=P) (E.un ht),MapKept.run_getObj_map hb,MapKept.run_checkKey (E.un hk) hK,MapKept.run_findKey (E.un hk) h1,MapKept.run_setObj_map _ hb]
  rfl
end
def setK {α:Type} (G:Int→α) (k:Int) (x:α):Int→α:=fun k'=>if k' = k then x else G k'
theorem setK_eq {α:Type} (G:Int→α) (k:Int) (x:α):setK G k x k = x:=if_pos rfl
theorem setK_ne {α:Type} (G:Int→α) {k k':Int} (x:α) (h:k' ≠ k):setK G k x k' = G k':=if_neg h
/-! ### Maps whose elements are structs of one own slice -/
def one (v:Value):Value:=.agg #[v]
def ones (G:Int→Option Value):Int→Option Value:=fun k=>(G k).map one
structure MowP (T:TypeId) (b:Nat) (G:Int→Option Value) (f:Int→List Int) (o:Option Int) (w:World):Prop where
 mp:MapF w b (ones G)
 own:∀ k v,some k ≠ o→G k = some v→OwnO w T v (Is (f k))
 off:∀ k v,G k = some v→v.ownBlock ≠ some b
 apart:∀ k v k' v' x,k ≠ k'→G k = some v→G k' = some v'→v.ownBlock = some x→v'.ownBlock ≠ some x
def mow (T:TypeId) (b:Nat) (G:Int→Option Value) (f:Int→List Int) (o:Option Int):Ch where
 wr:=fun x=>x = b∨∃ k v,some k ≠ o∧G k = some v∧v.ownBlock = some x
 rd:=fun _=>False
 bd:=fun _=>False
 P:=MowP T b G f o
 loc:=fun {w w'} h hb=>by
  refine ⟨?_,fun k v h1 h2=>(h.own k v h1 h2).keep fun x hx=>hb x (.inl (.inr ⟨k,v,h1,h2,hx⟩)),h.off,h.apart⟩
  obtain ⟨es,c,h1,h2⟩:=h.mp.ex
  exact ⟨es,c,(hb b (.inl (.inl rfl))).trans h1,h2⟩
 lt:=fun h hb=>by
  rcases hb with (rfl | ⟨k,v,h1,h2,h3⟩) | hb | hb
  ·exact h.mp.lt
  ·exact (h.own k v h1 h2).blt h3
  ·exact hb.elim
  ·exact hb.elim
instance (T:TypeId) (b:Nat) (G:Int→Option Value) (f:Int→List Int) (o:Option Int):NoB (mow T b G f o):=⟨fun _ h=>h⟩
theorem mow_map {A:List Ch} {T:TypeId} {b:Nat} {G:Int→Option Value} {f:Int→List Int} {o:Option Int} (h:mow T b G f o ∈ A) (w:World) (hw:Sat A w):MapF w b (ones G):=(hw.h _ h:MowP T b G f o w).mp
theorem OwnO.one {w:World} {e:TypeId} {v:Value} {xs:List Value} (h:OwnO w e v xs):v.oneCell' = true:=by
 rcases h with ⟨rfl,_⟩ | ⟨b,o,cap,cur,rfl,_⟩ <;> rfl
theorem mow_one {A:List Ch} {T:TypeId} {b:Nat} {G:Int→Option Value} {f:Int→List Int} {o:Option Int} (h:mow T b G f o ∈ A) (w:World) (hw:Sat A w):∀ k v,some k ≠ o→G k = some v→v.oneCell' = true:=fun k v h1 h2=>((hw.h _ h:MowP T b G f o w).own k v h1 h2).one
theorem mow_out (T:TypeId) (b:Nat) (G:Int→Option Value) (f:Int→List Int) {k:Int} {v:Value} (hv:G k = some v) (A:List Ch):Im (mow T b G f none :: A) (own T v (Is (f k)) :: mow T b G f (some k) :: A):=by
 have hk:some k ≠ (none:Option Int):=nofun
 have hft:∀ x,(mow T b G f (some k)).ft x→(mow T b G f none).wr x:=by
  rintro x ((h | ⟨k',v',h1,h2,h3⟩) | h | h)
  ·exact .inl h
  ·exact .inr ⟨k',v',nofun,h2,h3⟩
  ·exact h.elim
  ·exact h.elim
 have hfo:∀ x,(own T v (Is (f k))).ft x→(mow T b G f none).wr x:=by
  rintro x (h | h | h)
  ·exact .inr ⟨k,v,hk,hv,h⟩
  ·exact h.elim
  ·exact h.elim
 refine ⟨fun w hw=>?_,fun x hx=>?_,fun x hx=>?_,fun x hx=>?_⟩
 ·obtain ⟨h1,h2,h3⟩:=Sat.cons.1 hw
  have h1':MowP T b G f none w:=h1
  have hAp:Ap (own T v (Is (f k))) (mow T b G f (some k)):=by
   refine ⟨fun x hx hf=>?_,fun x hx hf=>?_⟩
   ·rcases hf with (rfl | ⟨k',v',e1,e2,e3⟩) | hf | hf
    ·exact h1'.off k v hv hx
    ·exact h1'.apart k v k' v' x (fun e=>e1 (by rw [e])) hv e2 hx e3
    ·exact hf
    ·exact hf
   ·rcases hf with hf | hf | hf
    ·rcases hx with rfl | ⟨k',v',e1,e2,e3⟩
     ·exact h1'.off k v hv hf
     ·exact h1'.apart k v k' v' x (fun e=>e1 (by rw [e])) hv e2 hf e3
    ·exact hf
    ·exact hf
  refine Sat.cons.2 ⟨h1'.own k v hk hv,fun a ha=>?_,Sat.cons.2 ⟨⟨h1'.mp,fun k' v' e1 e2=>h1'.own k' v' nofun e2,h1'.off,h1'.apart⟩,fun a ha=>?_,h3⟩⟩
  ·rcases List.mem_cons.1 ha with rfl | ha
   ·exact hAp
   ·exact ⟨fun x hx=>(h2 a ha).1 x (hfo x (.inl hx)),fun x hx hf=>(h2 a ha).2 x hx (.inl (hfo x hf))⟩
  ·exact ⟨fun x hx=>(h2 a ha).1 x (hft x (.inl hx)),fun x hx hf=>(h2 a ha).2 x hx (.inl (hft x hf))⟩
 ·obtain ⟨c,hc,h⟩:=hx
  rcases List.mem_cons.1 hc with rfl | hc
  ·exact ⟨_,List.mem_cons_self ..,hfo x (.inl h)⟩
  ·rcases List.mem_cons.1 hc with rfl | hc
   ·exact ⟨_,List.mem_cons_self ..,hft x (.inl h)⟩
   ·exact ⟨c,List.mem_cons_of_mem _ hc,h⟩
 ·obtain ⟨c,hc,h⟩:=hx
  rcases List.mem_cons.1 hc with rfl | hc
  ·exact h.elim
  ·rcases List.mem_cons.1 hc with rfl | hc
   ·exact h.elim
   ·exact .inr ⟨c,List.mem_cons_of_mem _ hc,h⟩
 ·obtain ⟨c,hc,h⟩:=hx
  rcases List.mem_cons.1 hc with rfl | hc
  ·exact ⟨_,List.mem_cons_self ..,.inl (hfo x h)⟩
  ·rcases List.mem_cons.1 hc with rfl | hc
   ·exact ⟨_,List.mem_cons_self ..,.inl (hft x h)⟩
   ·exact ⟨c,List.mem_cons_of_mem _ hc,h⟩
section
variable {P:Program} {E:Env P} {n:Sh} {X:Cx} {s:List K} {fr:Fr} {A A' A2 B F:List Ch} {ops:Array Oper} {rest:List Oper} {d:Nat} {ty:TypeId} {pos:String} {after:Array Edge} {v z:Value} {t T:TypeId} {x y:Operand} {c0:Code}
 {b:Nat} {f:Int→Option Value} {g:Int→List Int} {G:Int→Option Value} {k:Int} {kt et:TypeId} {sz by_:Nat}
theorem moS (kk:TO E n X s ops rest ((d,.tuple #[v,.bool true]) :: fr) A) (hf:f k = some v) (hx:ev fr x = some (mp b):=by rfl) (hy:ev fr y = some (I k):=by rfl) (hm:∀ w,Sat A w→MapF w b f:=by first | exact mow_map memA | exact mpc_map memA)
  (ht:lk E.und t = some (.map kt et):=by rfl) (hk:lk E.und kt = some dI:=by rfl) (hd:Nat.blt d n.n = true:=by rfl):TO E n X s ops (⟨some d,.lookup t x y true,ty,pos,after,none⟩ :: rest) fr A:=
 TO.val (fun w h=>R_lookS ht hk hx hy (hm w h) hf) kk hd
theorem moN (kk:TO E n X s ops rest ((d,.tuple #[z,.bool false]) :: fr) A) (hf:f k = none) (hx:ev fr x = some (mp b):=by rfl) (hy:ev fr y = some (I k):=by rfl) (hm:∀ w,Sat A w→MapF w b f:=by first | exact mow_map memA | exact mpc_map memA)
  (ht:lk E.und t = some (.map kt et):=by rfl) (hk:lk E.und kt = some dI:=by rfl) (he:lk E.inf et = some (z,sz,by_):=by rfl) (hd:Nat.blt d n.n = true:=by rfl):TO E n X s ops (⟨some d,.lookup t x y true,ty,pos,after,none⟩ :: rest) fr A:=
 TO.val (fun w h=>R_lookN ht hk he hx hy (hm w h) hf) kk hd
theorem mo (kk:TO E n X s ops rest ((d,v) :: fr) A) (hf:f k = some v) (hx:ev fr x = some (mp b):=by rfl) (hy:ev fr y = some (I k):=by rfl) (hm:∀ w,Sat A w→MapF w b f:=by first | exact mow_map memA | exact mpc_map memA)
  (ht:lk E.und t = some (.map kt et):=by rfl) (hk:lk E.und kt = some dI:=by rfl) (hd:Nat.blt d n.n = true:=by rfl):TO E n X s ops (⟨some d,.lookup t x y false,ty,pos,after,none⟩ :: rest) fr A:=
 TO.val (fun w h=>R_look ht hk hx hy (hm w h) hf) kk hd
theorem mmo (T:TypeId) (g:Int→List Int) {k1:IntKind} {m:Int} (h:∀ b,TO E n X s ops rest ((d,mp b) :: fr) (mow T b (fun _=>none) g none :: A)) (hx:ev fr x = some (.int k1 m):=by rfl) (ht:lk E.und t = some (.map kt et):=by rfl) (hd:Nat.blt d n.n = true:=by rfl) :
  TO E n X s ops (⟨some d,.makeMap t (some x),ty,pos,after,none⟩ :: rest) fr A:=⟨fun w hw=>by
 have hz:(w.alloc (.map #[] 0)).heap.size = w.heap.size + 1:=by simp
 refine SO_v hd (w':=w.alloc (.map #[] 0)) ⟨fun a ha _ _ _ _=>?_⟩ ((h w.heap.size).run _ (hw.new (Upd.alloc w _) (c:=mow T w.heap.size (fun _=>none) g none) ⟨⟨_,_,heap_alloc_new w _,Tells.nil⟩,fun k v _ e=>(by cases e),fun k v e=>(by cases e),fun k v k' v' x _ e=>(by cases e)⟩ ?_ (fun _ h=>h)))
 ·simp only [execOp,ha.ev hx]
  simp [ha.ev hx,Instr.makeMap,newObj,Sem.run,run_underlying (P:=P) (E.un ht),asInt,asIntOf]
 ·rintro y ((rfl | ⟨_,_,_,e,_⟩) | h | h)
  ·exact Nat.le_refl _
  ·cases e
  ·exact h.elim
  ·exact h.elim⟩
theorem mou {u:Operand} {o:Option Int} {l:List Int} (kk:TO E n X s ops rest fr (mow T b (setK G k (some v)) (setK g k l) none :: A2)) (ho:o = some k∨o = none∧G k = none) (hx:ev fr x = some (mp b):=by rfl)
  (hm:Tk (mow T b G g o) A A':=by exact tkA) (hm2:Tk (own T v (Is l)) A' A2:=by exact tkA) (hy:ev fr y = some (I k):=by rfl) (hu:ev fr u = some (.agg #[v]):=by rfl)
  (ht:lk E.und t = some (.map kt et):=by rfl) (hk:lk E.und kt = some dI:=by rfl):TO E n X s ops (⟨none,.mapUpdate t x y u,ty,pos,after,none⟩ :: rest) fr A:=⟨fun w hw=>by
 have h1:=(hw.im hm).im (Im.cons _ hm2)
 have h2:MowP T b G g o w:=h1.mem (List.Mem.head _)
 have h3:OwnO w T v (Is l):=h1.mem (List.Mem.tail _ (List.Mem.head _))
 have hap:=(Sat.cons.1 h1.sat).2.1 _ (List.Mem.head _)
 refine SO_mapUpdate ht hk hx hy hu h2.mp fun w' hU hM=>kk.run w' ?_
 have hkey:∀ k' v',k' ≠ k→G k' = some v'→some k' ≠ o:=fun k' v' hne hv e=>by
  rcases ho with rfl | ⟨rfl,_⟩
  ·cases e;exact hne rfl
  ·cases e
 have hvb:v.ownBlock ≠ some b:=fun e=>hap.1 b (.inl rfl) (.inl e)
 have hvk:∀ k' v' x,k' ≠ k→G k' = some v'→v'.ownBlock = some x→v.ownBlock ≠ some x:=fun k' v' x hne hv e1 e2=>hap.1 x (.inr ⟨k',v',hkey k' v' hne hv,hv,e1⟩) (.inl e2)
 refine h1.step (A:=[mow T b G g o,own T v (Is l)]) (B:=[_]) (F:=A2) (Mv.upd hU (fun y hy=>.inl ⟨mow T b G g o,by simp,.inl (List.mem_singleton.1 hy)⟩) ?_ (fun y hy=>by have:=rds_one.1 hy;exact this.elim)) (Sat.one ?_) (by simp [mow])
 ·intro y hy
  rcases wrs_one.1 hy with e | ⟨k',v',_,e1,e2⟩
  ·exact .inl ⟨mow T b G g o,by simp,.inl e⟩
  ·by_cases hkk:k' = k
   ·rw [hkk,setK_eq] at e1;cases e1;exact .inl ⟨own T v (Is l),by simp,e2⟩
   ·rw [setK_ne _ _ hkk] at e1;exact .inl ⟨mow T b G g o,by simp,.inr ⟨k',v',hkey k' v' hkk e1,e1,e2⟩⟩
 ·refine ⟨?_,fun k' v' _ e1=>?_,fun k' v' e1=>?_,fun k1 v1 k2 v2 y hne e1 e2 e3 e4=>?_⟩
  ·have e:ones (setK G k (some v)) = updF (ones G) k (.agg #[v]):=by
    funext k';unfold ones updF;by_cases hkk:k' = k
    ·rw [if_pos hkk,hkk,setK_eq];rfl
    ·rw [if_neg hkk,setK_ne _ _ hkk]
   rw [e];exact hM
  ·by_cases hkk:k' = k
   ·rw [hkk,setK_eq] at e1 ⊢;cases e1;exact h3.keep fun y hy=>hU.block y (h3.blt hy) (fun e=>hvb (by rw [hy];rw [List.mem_singleton.1 e]))
   ·rw [setK_ne _ _ hkk] at e1 ⊢
    have h4:=h2.own k' v' (hkey k' v' hkk e1) e1
    exact h4.keep fun y hy=>hU.block y (h4.blt hy) (fun e=>h2.off k' v' e1 (by rw [hy];rw [List.mem_singleton.1 e]))
  ·by_cases hkk:k' = k
   ·rw [hkk,setK_eq] at e1;cases e1;exact hvb
   ·rw [setK_ne _ _ hkk] at e1;exact h2.off k' v' e1
  ·by_cases hk1:k1 = k
   ·rw [hk1,setK_eq] at e1;cases e1
    rw [setK_ne _ _ (fun e=>hne (by rw [hk1,e]))] at e2
    exact hvk k2 v2 y (fun e=>hne (by rw [hk1,e])) e2 e4 e3
   ·rw [setK_ne _ _ hk1] at e1
    by_cases hk2:k2 = k
    ·rw [hk2,setK_eq] at e2;cases e2;exact hvk k1 v1 y hk1 e1 e3 e4
    ·rw [setK_ne _ _ hk2] at e2;exact h2.apart k1 v1 k2 v2 y hne e1 e2 e3 e4⟩
theorem mod {kt':TypeId} (kk:TO E n X s ops rest fr (mow T b (setK G k none) g none :: A')) (hx:ev fr x = some (mp b):=by rfl) (hy:ev fr y = some (I k):=by rfl) (hm:Tk (mow T b G g (some k)) A A':=by exact tkA)
  (ht:lk E.und t = some (.map kt et):=by rfl) (hk:lk E.und kt = some dI:=by rfl):TO E n X s ops (⟨none,.call ⟨.builtin .delete,#[x,y],#[t,kt']⟩,ty,pos,after,none⟩ :: rest) fr A:=⟨fun w hw=>by
 have h1:=hw.im hm
 have h2:MowP T b G g (some k) w:=h1.mem (List.Mem.head _)
 refine SO_delete ht hk hx hy h2.mp fun w' hU hM=>kk.run w' (h1.set hU (fun y hy=>.inl (.inl (List.mem_singleton.1 hy))) ?_ ?_ (fun _ h=>h))
 ·refine ⟨?_,fun k' v' _ e1=>?_,fun k' v' e1=>?_,fun k1 v1 k2 v2 y hne e1 e2=>?_⟩
  ·have e:ones (setK G k none) = delF (ones G) k:=by
    funext k';unfold ones delF;by_cases hkk:k' = k
    ·rw [if_pos hkk,hkk,setK_eq];rfl
    ·rw [if_neg hkk,setK_ne _ _ hkk]
   rw [e];exact hM
  ·by_cases hkk:k' = k
   ·rw [hkk,setK_eq] at e1;cases e1
   ·rw [setK_ne _ _ hkk] at e1
    have h4:=h2.own k' v' (fun e=>hkk (by cases e;rfl)) e1
    exact h4.keep fun y hy=>hU.block y (h4.blt hy) (fun e=>h2.off k' v' e1 (by rw [hy];rw [List.mem_singleton.1 e]))
  ·by_cases hkk:k' = k
   ·rw [hkk,setK_eq] at e1;cases e1
   ·rw [setK_ne _ _ hkk] at e1;exact h2.off k' v' e1
  ·by_cases hk1:k1 = k
   ·rw [hk1,setK_eq] at e1;cases e1
   ·rw [setK_ne _ _ hk1] at e1
    by_cases hk2:k2 = k
    ·rw [hk2,setK_eq] at e2;cases e2
    ·rw [setK_ne _ _ hk2] at e2;exact h2.apart k1 v1 k2 v2 y hne e1 e2
 ·rintro y ((e | ⟨k',v',_,e1,e2⟩) | h | h)
  ·exact .inl (.inl e)
  ·by_cases hkk:k' = k
   ·rw [hkk,setK_eq] at e1;cases e1
   ·rw [setK_ne _ _ hkk] at e1;exact .inl (.inr ⟨k',v',fun e=>hkk (by cases e;rfl),e1,e2⟩)
  ·exact h.elim
  ·exact h.elim⟩
end
end Go.Art
namespace Go.Art
open Go Go.RowKit
section
variable {P:Program} {E:Env P} {n:Sh} {Q0:Exit→Act→World→Prop} {s:List K} {fr:Fr} {w:World} {ops:Array Oper} {rest:List Oper} {d:Nat} {ty:TypeId} {pos:String} {after:Array Edge} {v z:Value} {x y:Operand} {t:TypeId} {b j sz by_:Nat}
theorem aggB_t {dt:TypeDesc} (ht:lk E.und t = some dt) (hd:aggB dt = true):(isAgg t).run P w = .ok true w:=by
 simp only [isAgg,Sem.run_bind,run_underlying (P:=P) (E.un ht) w,Result.andThen_ok]
 cases dt <;> first | rfl | (simp [aggB] at hd)
theorem R_field {fs:Array Field} {i:Nat} {f:Field} {cs:List Value} {dt:TypeDesc} (ht:lk E.und t = some (.struct fs)) (hf:fs[i]? = some f) (hdt:lk E.und f.type = some dt) (hg:aggB dt = false) (hx:ev fr x = some (.agg cs.toArray)) (hv:cs[f.offset]? = some v) :
  OpV P n fr (.field t x i) ty w v w:=⟨fun a ha _ _ _ _=>by
 simp only [execOp,ha.ev hx]
 simp [Instr.field,run_underlying (P:=P) (E.un ht),hf,part,aggB_run (w:=w) hdt hg,asAgg,hv]⟩
theorem R_loadA {cs vs:List Value} {T:TypeId} {dt:TypeDesc} (ht:lk E.und t = some dt) (hg:aggB dt = true) (hi:lk E.inf t = some (z,sz,by_)) (hx:ev fr x = some (.pointer (some ⟨b,j,none⟩))) (hb:w.heap[b]? = some (.cells cs.toArray T (0,0))) (hv:(cs.drop j).take sz = vs) (hl:vs.length = sz) :
  OpV P n fr (.load t x) ty w (.agg vs.toArray) w:=⟨fun a ha _ _ _ _=>by
 obtain ⟨inf,h1,_,h2,_⟩:=E.info hi
 have h3:=run_loadCells_list (P:=P) w ⟨b,j,none⟩ vs (fun m u hm=>by
  rw [Addr.add_lit]
  refine blk_cell hb ?_
  rw [← hv,List.getElem?_take] at hm
  split at hm
  ·rw [List.getElem?_drop] at hm;simpa using hm
  ·cases hm)
 rw [hl] at h3
 simp only [execOp,ha.ev hx]
 simp [Instr.loadAt,Instr.sureAddr,loadVar,aggB_t (w:=w) ht hg,sizeOf,typeInfo,h1,h2,h3]⟩
theorem SO_storeA {cs vs:List Value} {T:TypeId} (hi:lk E.inf t = some (z,sz,by_)) (ha:ev fr x = some (.pointer (some ⟨b,j,none⟩))) (hx:ev fr y = some (.agg vs.toArray)) (hl:vs.length = sz) (h1:∀ v ∈ vs,v.oneCell' = true)
  (hb:w.heap[b]? = some (.cells cs.toArray T (0,0))) (hj:j + sz ≤ cs.length) (h:∀ w',Upd w w' [b]→w'.heap[b]? = some (.cells (cs.take j ++ vs ++ cs.drop (j + sz)).toArray T (0,0))→SO E n Q0 s ops rest fr w') :
  SO E n Q0 s ops (⟨none,.store t x y,ty,pos,after,none⟩ :: rest) fr w:=by
 obtain ⟨inf,h2,_,h3,_⟩:=E.info hi
 have hst:=run_storeCells_at P b j T vs 0 cs.toArray w hb (by simpa [hl] using hj) h1
 simp only [Nat.add_zero] at hst
 refine SO_u (w':=w.setRow b (cs.take j ++ vs ++ cs.drop (j + sz)).toArray) ⟨fun a ha' _ _ _ _=>?_⟩ (h _ (Upd.setRow w b _) (setRow_heap w b cs.toArray _ T _ hb))
 simp only [execOp,ha'.ev ha,ha'.ev hx]
 simp [Instr.storeAt,Instr.sureAddr,storeVar,sizeOf,typeInfo,h2,h3,Value.cells,hl,hst,Addr.add]
def setParts1 (pl:List (Nat × Nat)):List Value→List (Nat × Value)→Option (List Value)
 | cs,[]=>some cs
 | cs,(i,v) :: r=>match pl[i]? with
  | some (off,sz)=>bif Nat.beq sz 1 && Nat.ble (off + 1) cs.length then setParts1 pl (cs.set off v) r else none
  | none=>none
theorem setParts_one {pl:List (Nat × Nat)}:∀ {vs:List (Nat × Value)} {cs cs':List Value},(∀ p ∈ vs,p.2.oneCell' = true)→setParts1 pl cs vs = some cs'→setParts pl cs vs = some cs'
 | [],_,_,_,h=>h
 | (i,v) :: r,cs,cs',h1,h=>by
  simp only [setParts1] at h
  simp only [setParts]
  split at h
  ·rename_i off sz hp
   by_cases hc:(Nat.beq sz 1 && Nat.ble (off + 1) cs.length) = true
   ·rw [hc,cond_true] at h
    simp only [Bool.and_eq_true] at hc
    obtain rfl:=Nat.eq_of_beq_eq_true hc.1
    have h2:=Nat.le_of_ble_eq_true hc.2
    have hv:v.cells = #[v]:=oneCell_cells (h1 (i,v) (by simp))
    rw [hp]
    simp only [hv]
    have e:(Nat.beq (#[v]:Array Value).size 1 && Nat.ble (off + 1) cs.length) = true:=by simp [hc.2]
    rw [e,cond_true]
    have e2:cs.take off ++ (#[v]:Array Value).toList ++ cs.drop (off + 1) = cs.set off v:=by
     rw [List.set_eq_take_append_cons_drop,if_pos (by omega)];simp
    rw [e2]
    exact setParts_one (fun p hp=>h1 p (by simp [hp])) h
   ·have:(Nat.beq sz 1 && Nat.ble (off + 1) cs.length) = false:=by simpa only [Bool.not_eq_true] using hc
    rw [this,cond_false] at h;cases h
  ·cases h
theorem R_buildC {fs:List Field} {zs cs:List Value} {pl:List (Nat × Nat)} {parts:List (Nat × Operand)} {vs:List (Nat × Value)} (h1:∀ p ∈ vs,p.2.oneCell' = true) (ht:lk E.und t = some (.struct fs.toArray)) (he:lk E.inf t = some (.agg zs.toArray,sz,by_))
  (hpl:places E.inf fs = some pl) (hv:evps fr parts = some vs) (hs:setParts1 pl zs vs = some cs):OpV P n fr (.build t parts.toArray) ty w (.agg cs.toArray) w:=R_build ht he hpl hv (setParts_one h1 hs)
end
section
variable {P:Program} {E:Env P} {n:Sh} {X:Cx} {s:List K} {fr:Fr} {A A' B F:List Ch} {ops:Array Oper} {rest:List Oper} {d:Nat} {ty:TypeId} {pos:String} {after:Array Edge} {v z:Value} {t T:TypeId} {x y:Operand} {b j sz by_:Nat} {cs vs cs':List Value} {dt:TypeDesc} {fs:Array Field} {i:Nat} {f:Field}
theorem bdc {fl:List Field} {zs:List Value} {pl:List (Nat × Nat)} {parts:List (Nat × Operand)} {ps:List (Nat × Value)} (h1:∀ p ∈ ps,p.2.oneCell' = true) (k:TO E n X s ops rest ((d,.agg cs.toArray) :: fr) A) (hv:evps fr parts = some ps:=by rfl) (ht:lk E.und t = some (.struct fl.toArray):=by rfl) (he:lk E.inf t = some (.agg zs.toArray,sz,by_):=by rfl)
  (hpl:places E.inf fl = some pl:=by rfl) (hs:setParts1 pl zs ps = some cs:=by rfl) (hd:Nat.blt d n.n = true:=by rfl):TO E n X s ops (⟨some d,.build t parts.toArray,ty,pos,after,none⟩ :: rest) fr A:=TO.val (fun _ _=>R_buildC h1 ht he hpl hv hs) k hd
theorem lda (k:TO E n X s ops rest ((d,.agg vs.toArray) :: fr) A) (hx:ev fr x = some (.pointer (some ⟨b,j,none⟩)):=by rfl) (hm:pt b cs T ∈ A:=by exact memA) (ht:lk E.und t = some dt:=by rfl) (hg:aggB dt = true:=by rfl) (hi:lk E.inf t = some (z,sz,by_):=by rfl)
  (hv:(cs.drop j).take sz = vs:=by rfl) (hl:vs.length = sz:=by rfl) (hd:Nat.blt d n.n = true:=by rfl):TO E n X s ops (⟨some d,.load t x,ty,pos,after,none⟩ :: rest) fr A:=TO.val (fun _ h=>R_loadA ht hg hi hx (h.h (pt b cs T) hm) hv hl) k hd
theorem sra (k:TO E n X s ops rest fr (pt b cs' T :: A')) (ha:ev fr x = some (.pointer (some ⟨b,j,none⟩)):=by rfl) (hm:Tk (pt b cs T) A A':=by exact tkA) (hx:ev fr y = some (.agg vs.toArray):=by rfl) (hi:lk E.inf t = some (z,sz,by_):=by rfl) (hl:vs.length = sz:=by rfl)
  (h1:∀ v ∈ vs,v.oneCell' = true:=by simp;first | done | rfl | assumption) (hj:j + sz ≤ cs.length:=by decide) (hs:cs.take j ++ vs ++ cs.drop (j + sz) = cs':=by rfl):TO E n X s ops (⟨none,.store t x y,ty,pos,after,none⟩ :: rest) fr A:=⟨fun w hw=>by
 subst hs
 have h2:=hw.im hm
 refine SO_storeA hi ha hx hl h1 (h2.mem (List.Mem.head _)) hj fun w' hU hb=>k.run w' (h2.set hU (by simp [pt]) hb ?_ (by simp [pt]))
 rintro x (rfl | h | h);exact .inl rfl;exact h.elim;exact h.elim⟩
end
end Go.Art
namespace Go.Art
open Go Go.Proofs
def tyUnd:List (Nat × TypeDesc):=[(2,.int .i64),
 (3,.int .i64),
 (4,.bool),
 (5,.int .u8),
 (9,.string),
 (12,.int .u64),
 (13,.struct #[⟨ "msg", 9,0,false, "", "runtime", 0⟩,⟨ "addr", 12,1,false, "", "runtime", 16⟩]),
 (19,.struct #[⟨ "typ", 17,0,false, "", "internal/runtime/maps", 0⟩]),
 (21,.int .i32),
 (22,.slice 3),
 (26,.slice 35),
 (27,.int .i64),
 (30,.slice 145),
 (31,.slice 145),
 (32,.struct #[⟨ "Below", 4,0,false, "", "", 0⟩,⟨ "N", 31,1,false, "", "", 8⟩]),
 (33,.struct #[⟨ "Below", 4,0,false, "", "", 0⟩,⟨ "N", 31,1,false, "", "", 8⟩]),
 (34,.struct #[⟨ "Up", 33,0,false, "", "", 0⟩,⟨ "Down", 31,2,false, "", "", 32⟩]),
 (35,.struct #[⟨ "Up", 33,0,false, "", "", 0⟩,⟨ "Down", 31,2,false, "", "", 32⟩]),
 (41,.slice 45),
 (44,.struct #[⟨ "Cloud", 3,0,false, "", "", 0⟩,⟨ "Ripple", 3,1,false, "", "", 8⟩,⟨ "Mass", 35,2,false, "", "", 16⟩]),
 (45,.struct #[⟨ "Cloud", 3,0,false, "", "", 0⟩,⟨ "Ripple", 3,1,false, "", "", 8⟩,⟨ "Mass", 35,2,false, "", "", 16⟩]),
 (56,.slice 22),
 (79,.struct #[⟨ "n", 3,0,false, "", "artesian/ripple", 0⟩,⟨ "l", 26,1,false, "", "artesian/ripple", 8⟩]),
 (80,.struct #[⟨ "n", 3,0,false, "", "artesian/ripple", 0⟩,⟨ "l", 26,1,false, "", "artesian/ripple", 8⟩]),
 (85,.array 2 3),
 (86,.slice 90),
 (88,.slice 92),
 (89,.struct #[⟨ "L", 88,0,false, "", "", 0⟩,⟨ "Down", 31,1,false, "", "", 24⟩]),
 (90,.struct #[⟨ "L", 88,0,false, "", "", 0⟩,⟨ "Down", 31,1,false, "", "", 24⟩]),
 (92,.slice 31),
 (110,.slice 125),
 (115,.struct #[⟨ "Total", 3,0,false, "", "", 0⟩,⟨ "Cut", 22,1,false, "", "", 8⟩,⟨ "Other", 22,2,false, "", "", 32⟩]),
 (116,.struct #[⟨ "Total", 3,0,false, "", "", 0⟩,⟨ "Cut", 22,1,false, "", "", 8⟩,⟨ "Other", 22,2,false, "", "", 32⟩]),
 (121,.pointer 183),
 (124,.struct #[⟨ "set", 22,0,false, "", "artesian/mass", 0⟩,⟨ "mass", 35,1,false, "", "artesian/mass", 24⟩]),
 (125,.struct #[⟨ "set", 22,0,false, "", "artesian/mass", 0⟩,⟨ "mass", 35,1,false, "", "artesian/mass", 24⟩]),
 (145,.int .u64),
 (160,.map 3 162),
 (161,.struct #[⟨ "sets", 22,0,false, "", "artesian/stop", 0⟩]),
 (162,.struct #[⟨ "sets", 22,0,false, "", "artesian/stop", 0⟩]),
 (170,.slice 3),
 (177,.pointer 179),
 (178,.struct #[⟨ "l", 22,0,false, "", "artesian/lots", 0⟩]),
 (179,.struct #[⟨ "l", 22,0,false, "", "artesian/lots", 0⟩]),
 (182,.struct #[⟨ "source", 181,0,true, "", "artesian/lots", 0⟩,⟨ "used", 3,1,false, "", "artesian/lots", 16⟩,⟨ "broken", 4,2,false, "", "artesian/lots", 24⟩]),
 (183,.struct #[⟨ "source", 181,0,true, "", "artesian/lots", 0⟩,⟨ "used", 3,1,false, "", "artesian/lots", 16⟩,⟨ "broken", 4,2,false, "", "artesian/lots", 24⟩]),
 (193,.pointer 35),
 (200,.array 2 149),
 (207,.slice 3),
 (211,.pointer 170),
 (223,.array 2 26),
 (230,.int .u64),
 (235,.pointer 207),
 (243,.map 3 3),
 (244,.map 3 3),
 (261,.int .i64),
 (267,.int .u32),
 (272,.int .u64),
 (276,.pointer 3),
 (278,.pointer 272),
 (290,.pointer 5),
 (39,.func #[35] #[] false),
 (91,.func #[31,31] #[31] false),
 (100,.func #[35,35] #[35] false),
 (114,.func #[3,56] #[4] false),
 (132,.func #[26,26] #[26] true),
 (134,.func #[35,26] #[35] true),
 (151,.func #[22] #[4] false),
 (181,.interface #[("artesian/lots.draw", 242)]),
 (191,.func #[3,3] #[35] false),
 (224,.func #[3,3,35] #[35] false),
 (269,.interface #[("Error", 281)]),
 (1,.func #[] #[] false),
 (20,.interface #[]),
 (23,.func #[22,3,3] #[4] false),
 (24,.func #[] #[4] false),
 (25,.func #[22] #[22] false),
 (29,.func #[22,3,3] #[26,27] false),
 (37,.func #[22,3,3] #[35,27] false),
 (38,.func #[35,35] #[4] false),
 (40,.func #[22,22] #[4] false),
 (43,.func #[22,3,3,3] #[41,27] false),
 (46,.func #[22,3,3,3] #[4] false),
 (47,.func #[45,3,3,3,3] #[4] false),
 (48,.func #[35,27,3,3] #[4] false),
 (49,.func #[22,3,3,3,3] #[4] false),
 (50,.func #[3,3] #[3] false),
 (52,.func #[22,3] #[22,4] false),
 (53,.func #[26] #[35,27] true),
 (55,.func #[35,35] #[3,27] false),
 (58,.func #[22,3] #[56,27] false),
 (59,.func #[3,3] #[35,27] false),
 (60,.func #[22,3,56,56,35,3,26] #[4] false),
 (61,.func #[35,3] #[4] false),
 (62,.func #[35] #[35] false),
 (64,.func #[22,3,35,3] #[3,35,27] false),
 (65,.func #[22,3,35,3] #[4] false),
 (66,.func #[35,3,3] #[4] false),
 (67,.func #[22,3,35,3,3,3,3,27] #[4] false),
 (68,.func #[] #[35] false),
 (70,.func #[22,3] #[22,3] false),
 (71,.func #[22,3] #[27] false),
 (72,.func #[33] #[3] false),
 (74,.func #[22,3,56,56,3] #[35,4] false),
 (75,.func #[22,3,3] #[27] false),
 (76,.func #[139] #[] false),
 (77,.func #[139] #[] false),
 (78,.func #[22,3,3] #[77] false),
 (81,.func #[3] #[35] false),
 (82,.func #[142] #[] false),
 (83,.func #[142] #[] false),
 (84,.func #[] #[83] false),
 (87,.func #[22,3,3] #[86] false),
 (93,.func #[31,31] #[35] false),
 (94,.func #[33,33] #[4] false),
 (95,.func #[31,31] #[4] false),
 (96,.func #[31] #[] false),
 (97,.func #[35] #[4] false),
 (98,.func #[35,100,26] #[35,27] false),
 (99,.func #[] #[31] false),
 (101,.func #[35,35] #[35,27] false),
 (102,.func #[151] #[] false),
 (103,.func #[151] #[] false),
 (104,.func #[3,3,3,22] #[103] false),
 (105,.func #[3] #[33] false),
 (106,.func #[33,31] #[35,27] false),
 (107,.func #[4,31] #[33] false),
 (109,.func #[3,56] #[22,27] false),
 (112,.func #[22,3,3] #[110,27] false),
 (113,.func #[110,3,3,114] #[35,27] false),
 (118,.func #[22] #[116,27] false),
 (119,.func #[116,3] #[56,27] false),
 (120,.func #[116,3,121] #[22,27] false),
 (122,.func #[22] #[121] false),
 (123,.func #[116,3,3] #[35,27] false),
 (126,.func #[33] #[33] false),
 (127,.func #[31] #[31] false),
 (128,.func #[35] #[27] false),
 (129,.func #[187] #[] false),
 (130,.func #[187] #[] false),
 (131,.func #[22,3,3] #[130] false),
 (133,.func #[130,26,132] #[26] false),
 (135,.func #[130,35,134] #[35] false),
 (137,.func #[3,56] #[4,27] false),
 (138,.func #[22,3,22] #[35,4] false),
 (139,.func #[3,80] #[4] false),
 (140,.func #[22,3,3] #[80] false),
 (141,.func #[80,22,3,3] #[80] false),
 (142,.func #[85,35] #[4] false),
 (143,.func #[22,3,3] #[90] false),
 (144,.func #[90,22,3,3,3] #[90] false),
 (146,.func #[31,3] #[145] false),
 (147,.func #[26] #[4] true),
 (148,.func #[31] #[33] false),
 (149,.func #[33,33] #[33] false),
 (150,.func #[33,31] #[35] false),
 (152,.func #[145] #[31] false),
 (153,.func #[33] #[27] false),
 (154,.func #[31] #[3] false),
 (155,.func #[3,56] #[27] false),
 (156,.func #[158] #[22] false),
 (157,.func #[206] #[] false),
 (158,.func #[206] #[] false),
 (159,.func #[160] #[158] false),
 (163,.func #[3,56] #[160] false),
 (165,.func #[3,3] #[31,27] false),
 (166,.func #[31,145] #[31] false),
 (167,.func #[22] #[3] false),
 (168,.func #[3,3] #[4] false),
 (169,.func #[3,3] #[103] false),
 (171,.func #[3] #[] false),
 (172,.func #[] #[3] false),
 (173,.func #[116,3] #[27] false),
 (174,.func #[116,3] #[103] false),
 (175,.func #[116,121] #[3,27] false),
 (176,.func #[121,3,3] #[22,27] false),
 (180,.interface #[("artesian/lots.draw", 242)]),
 (184,.func #[31] #[35] false),
 (185,.func #[31] #[27] false),
 (186,.func #[31,31] #[3] false),
 (187,.func #[3,35] #[4] false),
 (188,.func #[33,33] #[3] false),
 (189,.func #[3,35] #[80] false),
 (190,.func #[22,3,3,3] #[35,27] false),
 (192,.func #[35] #[191] false),
 (194,.func #[3,3] #[193] false),
 (195,.func #[3,31] #[90] false),
 (196,.func #[31,3] #[31] false),
 (197,.func #[3,3,31,31,3] #[31] false),
 (198,.func #[31,31,3] #[88] false),
 (199,.func #[90,3] #[90] false),
 (201,.func #[31,31,3] #[31] false),
 (202,.func #[145] #[3] false),
 (203,.func #[56,151] #[4] false),
 (204,.func #[3,22] #[4] false),
 (205,.func #[22] #[] false),
 (206,.func #[3] #[4] false),
 (210,.func #[31,145] #[31,145,27] false),
 (212,.func #[116] #[27] false),
 (213,.func #[116,3,3] #[3,27] false),
 (214,.func #[22,3,3] #[103] false),
 (215,.func #[3] #[3,27] false),
 (216,.func #[22] #[158] false),
 (217,.func #[247] #[] false),
 (218,.func #[247] #[] false),
 (219,.func #[31,31] #[218] false),
 (221,.func #[31,31] #[31,31,27] false),
 (222,.func #[22,3,3,3] #[35] false),
 (225,.func #[3,3,3,3] #[35] false),
 (226,.func #[31,31] #[31,27] false),
 (227,.func #[31] #[31,31] false),
 (229,.func #[31,92] #[31] true),
 (231,.func #[56,151] #[3] false),
 (232,.func #[22,158] #[22] false),
 (233,.func #[22,3,3,3] #[] false),
 (234,.func #[230] #[3] false),
 (237,.func #[145,145,145] #[145,145] false),
 (238,.func #[31,31,145] #[] false),
 (239,.func #[3] #[206] false),
 (240,.func #[22,206] #[4] false),
 (242,.func #[3] #[3,4] false),
 (245,.func #[3,3] #[] false),
 (246,.func #[3] #[3] false),
 (247,.func #[145,145] #[4] false),
 (248,.func #[31,3] #[31,27] false),
 (249,.func #[31,31] #[145] false),
 (250,.func #[31,4] #[] false),
 (251,.func #[31,3] #[4] false),
 (252,.func #[31,31] #[] false),
 (253,.func #[255,35,100] #[35] false),
 (254,.func #[97] #[] false),
 (255,.func #[97] #[] false),
 (256,.func #[22,3,3,3] #[255] false),
 (257,.func #[3] #[92] false),
 (258,.func #[145,145] #[145,145] false),
 (259,.func #[3] #[31] false),
 (260,.func #[22,3,3] #[] false),
 (263,.func #[22,3,3] #[3,261] false),
 (264,.func #[22,3,3,3] #[3] false),
 (265,.func #[22,3,3,3] #[3,4] false),
 (266,.func #[267] #[3] false),
 (268,.interface #[("Error", 281)]),
 (270,.func #[22,206] #[3] false),
 (271,.func #[92] #[92] false),
 (273,.func #[3] #[230] false),
 (274,.func #[] #[145] false),
 (275,.func #[22,3,276] #[3] false),
 (277,.func #[22,3,3,3,276] #[3] false),
 (280,.func #[22,3,3,276] #[3,3] false),
 (281,.func #[] #[9] false),
 (289,.func #[295,295] #[4] false)]
def tyInf:List (Nat × (Value × Nat × Nat)):=[(2,(.int .i64 0,1,8)),
 (3,(.int .i64 0,1,8)),
 (4,(.bool false,1,1)),
 (5,(.int .u8 0,1,1)),
 (9,(.string ByteArray.empty,1,16)),
 (12,(.int .u64 0,1,8)),
 (13,(.agg #[.string ByteArray.empty,.int .u64 0],2,24)),
 (19,(.agg #[.pointer none],1,8)),
 (21,(.int .i32 0,1,4)),
 (22,(.slice none 0 0,1,24)),
 (26,(.slice none 0 0,1,24)),
 (27,(.int .i64 0,1,8)),
 (30,(.slice none 0 0,1,24)),
 (31,(.slice none 0 0,1,24)),
 (32,(.agg #[.bool false,.slice none 0 0],2,32)),
 (33,(.agg #[.bool false,.slice none 0 0],2,32)),
 (34,(.agg #[.bool false,.slice none 0 0,.slice none 0 0],3,56)),
 (35,(.agg #[.bool false,.slice none 0 0,.slice none 0 0],3,56)),
 (41,(.slice none 0 0,1,24)),
 (44,(.agg #[.int .i64 0,.int .i64 0,.bool false,.slice none 0 0,.slice none 0 0],5,72)),
 (45,(.agg #[.int .i64 0,.int .i64 0,.bool false,.slice none 0 0,.slice none 0 0],5,72)),
 (56,(.slice none 0 0,1,24)),
 (79,(.agg #[.int .i64 0,.slice none 0 0],2,32)),
 (80,(.agg #[.int .i64 0,.slice none 0 0],2,32)),
 (85,(.agg #[.int .i64 0,.int .i64 0],2,16)),
 (86,(.slice none 0 0,1,24)),
 (88,(.slice none 0 0,1,24)),
 (89,(.agg #[.slice none 0 0,.slice none 0 0],2,48)),
 (90,(.agg #[.slice none 0 0,.slice none 0 0],2,48)),
 (92,(.slice none 0 0,1,24)),
 (110,(.slice none 0 0,1,24)),
 (115,(.agg #[.int .i64 0,.slice none 0 0,.slice none 0 0],3,56)),
 (116,(.agg #[.int .i64 0,.slice none 0 0,.slice none 0 0],3,56)),
 (121,(.pointer none,1,8)),
 (124,(.agg #[.slice none 0 0,.bool false,.slice none 0 0,.slice none 0 0],4,80)),
 (125,(.agg #[.slice none 0 0,.bool false,.slice none 0 0,.slice none 0 0],4,80)),
 (145,(.int .u64 0,1,8)),
 (160,(.map none,1,8)),
 (161,(.agg #[.slice none 0 0],1,24)),
 (162,(.agg #[.slice none 0 0],1,24)),
 (170,(.slice none 0 0,1,24)),
 (177,(.pointer none,1,8)),
 (178,(.agg #[.slice none 0 0],1,24)),
 (179,(.agg #[.slice none 0 0],1,24)),
 (182,(.agg #[.nilIface,.int .i64 0,.bool false],3,32)),
 (183,(.agg #[.nilIface,.int .i64 0,.bool false],3,32)),
 (193,(.pointer none,1,8)),
 (200,(.agg #[.nilFunc,.nilFunc],2,16)),
 (207,(.slice none 0 0,1,24)),
 (211,(.pointer none,1,8)),
 (223,(.agg #[.slice none 0 0,.slice none 0 0],2,48)),
 (230,(.int .u64 0,1,8)),
 (235,(.pointer none,1,8)),
 (243,(.map none,1,8)),
 (244,(.map none,1,8)),
 (261,(.int .i64 0,1,8)),
 (267,(.int .u32 0,1,4)),
 (272,(.int .u64 0,1,8)),
 (276,(.pointer none,1,8)),
 (278,(.pointer none,1,8)),
 (290,(.pointer none,1,8)),
 (39,(.nilFunc,1,8)),
 (91,(.nilFunc,1,8)),
 (100,(.nilFunc,1,8)),
 (114,(.nilFunc,1,8)),
 (132,(.nilFunc,1,8)),
 (134,(.nilFunc,1,8)),
 (151,(.nilFunc,1,8)),
 (181,(.nilIface,1,16)),
 (191,(.nilFunc,1,8)),
 (224,(.nilFunc,1,8)),
 (269,(.nilIface,1,16)),
 (1,(.nilFunc,1,8)),
 (20,(.nilIface,1,16)),
 (23,(.nilFunc,1,8)),
 (24,(.nilFunc,1,8)),
 (25,(.nilFunc,1,8)),
 (29,(.nilFunc,1,8)),
 (37,(.nilFunc,1,8)),
 (38,(.nilFunc,1,8)),
 (40,(.nilFunc,1,8)),
 (43,(.nilFunc,1,8)),
 (46,(.nilFunc,1,8)),
 (47,(.nilFunc,1,8)),
 (48,(.nilFunc,1,8)),
 (49,(.nilFunc,1,8)),
 (50,(.nilFunc,1,8)),
 (52,(.nilFunc,1,8)),
 (53,(.nilFunc,1,8)),
 (55,(.nilFunc,1,8)),
 (58,(.nilFunc,1,8)),
 (59,(.nilFunc,1,8)),
 (60,(.nilFunc,1,8)),
 (61,(.nilFunc,1,8)),
 (62,(.nilFunc,1,8)),
 (64,(.nilFunc,1,8)),
 (65,(.nilFunc,1,8)),
 (66,(.nilFunc,1,8)),
 (67,(.nilFunc,1,8)),
 (68,(.nilFunc,1,8)),
 (70,(.nilFunc,1,8)),
 (71,(.nilFunc,1,8)),
 (72,(.nilFunc,1,8)),
 (74,(.nilFunc,1,8)),
 (75,(.nilFunc,1,8)),
 (76,(.nilFunc,1,8)),
 (77,(.nilFunc,1,8)),
 (78,(.nilFunc,1,8)),
 (81,(.nilFunc,1,8)),
 (82,(.nilFunc,1,8)),
 (83,(.nilFunc,1,8)),
 (84,(.nilFunc,1,8)),
 (87,(.nilFunc,1,8)),
 (93,(.nilFunc,1,8)),
 (94,(.nilFunc,1,8)),
 (95,(.nilFunc,1,8)),
 (96,(.nilFunc,1,8)),
 (97,(.nilFunc,1,8)),
 (98,(.nilFunc,1,8)),
 (99,(.nilFunc,1,8)),
 (101,(.nilFunc,1,8)),
 (102,(.nilFunc,1,8)),
 (103,(.nilFunc,1,8)),
 (104,(.nilFunc,1,8)),
 (105,(.nilFunc,1,8)),
 (106,(.nilFunc,1,8)),
 (107,(.nilFunc,1,8)),
 (109,(.nilFunc,1,8)),
 (112,(.nilFunc,1,8)),
 (113,(.nilFunc,1,8)),
 (118,(.nilFunc,1,8)),
 (119,(.nilFunc,1,8)),
 (120,(.nilFunc,1,8)),
 (122,(.nilFunc,1,8)),
 (123,(.nilFunc,1,8)),
 (126,(.nilFunc,1,8)),
 (127,(.nilFunc,1,8)),
 (128,(.nilFunc,1,8)),
 (129,(.nilFunc,1,8)),
 (130,(.nilFunc,1,8)),
 (131,(.nilFunc,1,8)),
 (133,(.nilFunc,1,8)),
 (135,(.nilFunc,1,8)),
 (137,(.nilFunc,1,8)),
 (138,(.nilFunc,1,8)),
 (139,(.nilFunc,1,8)),
 (140,(.nilFunc,1,8)),
 (141,(.nilFunc,1,8)),
 (142,(.nilFunc,1,8)),
 (143,(.nilFunc,1,8)),
 (144,(.nilFunc,1,8)),
 (146,(.nilFunc,1,8)),
 (147,(.nilFunc,1,8)),
 (148,(.nilFunc,1,8)),
 (149,(.nilFunc,1,8)),
 (150,(.nilFunc,1,8)),
 (152,(.nilFunc,1,8)),
 (153,(.nilFunc,1,8)),
 (154,(.nilFunc,1,8)),
 (155,(.nilFunc,1,8)),
 (156,(.nilFunc,1,8)),
 (157,(.nilFunc,1,8)),
 (158,(.nilFunc,1,8)),
 (159,(.nilFunc,1,8)),
 (163,(.nilFunc,1,8)),
 (165,(.nilFunc,1,8)),
 (166,(.nilFunc,1,8)),
 (167,(.nilFunc,1,8)),
 (168,(.nilFunc,1,8)),
 (169,(.nilFunc,1,8)),
 (171,(.nilFunc,1,8)),
 (172,(.nilFunc,1,8)),
 (173,(.nilFunc,1,8)),
 (174,(.nilFunc,1,8)),
 (175,(.nilFunc,1,8)),
 (176,(.nilFunc,1,8)),
 (180,(.nilIface,1,16)),
 (184,(.nilFunc,1,8)),
 (185,(.nilFunc,1,8)),
 (186,(.nilFunc,1,8)),
 (187,(.nilFunc,1,8)),
 (188,(.nilFunc,1,8)),
 (189,(.nilFunc,1,8)),
 (190,(.nilFunc,1,8)),
 (192,(.nilFunc,1,8)),
 (194,(.nilFunc,1,8)),
 (195,(.nilFunc,1,8)),
 (196,(.nilFunc,1,8)),
 (197,(.nilFunc,1,8)),
 (198,(.nilFunc,1,8)),
 (199,(.nilFunc,1,8)),
 (201,(.nilFunc,1,8)),
 (202,(.nilFunc,1,8)),
 (203,(.nilFunc,1,8)),
 (204,(.nilFunc,1,8)),
 (205,(.nilFunc,1,8)),
 (206,(.nilFunc,1,8)),
 (210,(.nilFunc,1,8)),
 (212,(.nilFunc,1,8)),
 (213,(.nilFunc,1,8)),
 (214,(.nilFunc,1,8)),
 (215,(.nilFunc,1,8)),
 (216,(.nilFunc,1,8)),
 (217,(.nilFunc,1,8)),
 (218,(.nilFunc,1,8)),
 (219,(.nilFunc,1,8)),
 (221,(.nilFunc,1,8)),
 (222,(.nilFunc,1,8)),
 (225,(.nilFunc,1,8)),
 (226,(.nilFunc,1,8)),
 (227,(.nilFunc,1,8)),
 (229,(.nilFunc,1,8)),
 (231,(.nilFunc,1,8)),
 (232,(.nilFunc,1,8)),
 (233,(.nilFunc,1,8)),
 (234,(.nilFunc,1,8)),
 (237,(.nilFunc,1,8)),
 (238,(.nilFunc,1,8)),
 (239,(.nilFunc,1,8)),
 (240,(.nilFunc,1,8)),
 (242,(.nilFunc,1,8)),
 (245,(.nilFunc,1,8)),
 (246,(.nilFunc,1,8)),
 (247,(.nilFunc,1,8)),
 (248,(.nilFunc,1,8)),
 (249,(.nilFunc,1,8)),
 (250,(.nilFunc,1,8)),
 (251,(.nilFunc,1,8)),
 (252,(.nilFunc,1,8)),
 (253,(.nilFunc,1,8)),
 (254,(.nilFunc,1,8)),
 (255,(.nilFunc,1,8)),
 (256,(.nilFunc,1,8)),
 (257,(.nilFunc,1,8)),
 (258,(.nilFunc,1,8)),
 (259,(.nilFunc,1,8)),
 (260,(.nilFunc,1,8)),
 (263,(.nilFunc,1,8)),
 (264,(.nilFunc,1,8)),
 (265,(.nilFunc,1,8)),
 (266,(.nilFunc,1,8)),
 (268,(.nilIface,1,16)),
 (270,(.nilFunc,1,8)),
 (271,(.nilFunc,1,8)),
 (273,(.nilFunc,1,8)),
 (274,(.nilFunc,1,8)),
 (275,(.nilFunc,1,8)),
 (277,(.nilFunc,1,8)),
 (280,(.nilFunc,1,8)),
 (281,(.nilFunc,1,8)),
 (289,(.nilFunc,1,8))]
theorem tyUnd_ok:tyUnd.map (fun p=>Tryz.prog.underlying p.1) = tyUnd.map (fun p=>some p.2):=by kernel_rfl
theorem tyInf_ok:tyInf.map (fun p=>(Tryz.prog.info? p.1).map (fun i=>(i.zero,i.size,i.bytes))) = tyInf.map (fun p=>some (some p.2.1,p.2.2.1,p.2.2.2)):=by kernel_rfl
theorem follows_mixed:Tryz.prog.follows .mixedOrders = true:=by kernel_rfl
theorem of_map_eq {α β:Type} {f g:α→β}:∀ {l:List α},l.map f = l.map g→∀ p ∈ l,f p = g p
 | [],_,_,hp=>by cases hp
 | a :: r,h,p,hp=>by
  simp only [List.map_cons,List.cons.injEq] at h
  rcases List.mem_cons.1 hp with rfl | hp
  ·exact h.1
  ·exact of_map_eq h.2 p hp
def env:Env Tryz.prog where
 und:=tyUnd
 und_ok:=of_map_eq tyUnd_ok
 inf:=tyInf
 inf_ok:=of_map_eq tyInf_ok
 mixed:=follows_mixed
open Go Go.Proofs Go.RowKit
attribute [local irreducible] Fit pt own ro vw mpc lpt vels rels mow lrc dfr
section
variable {P:Program} {E:Env P} {n:Sh} {X:Cx} {s:List K} {fr:Fr} {A:List Ch} {ops:Array Oper} {rest:List Oper} {d:Nat} {ty:TypeId} {pos:String} {after:Array Edge} {a b:Code}
theorem gca {f:FuncId} {args:Array Operand} {ats:Array TypeId} (h:TO E n X s ops (⟨some d,.call ⟨.value (.func f),args,ats⟩,ty,pos,after,none⟩ :: rest) fr A):TO E n X s ops (⟨some d,.call ⟨.value (.func f),args,ats⟩,ty,pos,after,none⟩ :: rest) fr A:=h
end
def pick (x n:Int):Int:=if n ≤ 0 then 0 else x % n
theorem tmod_pick (x m:Int) (hm:0 < m):x.tmod m = (if x.tmod m < 0 then x % m - m else x % m):=by
 rw [Int.tmod_eq_emod]
 have h1:=Int.emod_nonneg x (show m ≠ 0 by omega)
 have h2:=Int.emod_lt_of_pos x hm
 by_cases hx:0 ≤ x∨m ∣ x
 ·have:¬ (x % m - 0 < 0):=by omega
  simp [hx];intro;omega
 ·have hn:((m.natAbs:Nat):Int) = m:=by omega
  simp only [hx,if_false,hn]
  have:x % m - m < 0:=by omega
  simp [this]
theorem amodw {P:Program} {E:Env P} {n:Sh} {X:Cx} {s:List K} {fr:Fr} {A:List Ch} {ops:Array Oper} {rest:List Oper} {d:Nat} {ty t t':TypeId} {pos:String} {after:Array Edge} {x y:Operand} {m q:Int} (k:TO E n X s ops rest ((d,I (m.tmod q)) :: fr) A) (hx:ev fr x = some (I m):=by rfl) (hy:ev fr y = some (I q):=by rfl) (hb:q ≠ 0:=by omega) (hd:Nat.blt d n.n = true:=by rfl) :
  TO E n X s ops (⟨some d,.binOp .rem t x y t',ty,pos,after,none⟩ :: rest) fr A:=TO.val (fun _ _=>R_rem hx hy hb) k hd
end Go.Art
namespace Go.Art
open Go Go.RowKit
def elgP (g:Int→Value) (hs:List Value) (ls:List (List Int)) (w:World):Prop:=hs.length = ls.length∧∀ i,i < ls.length→Sl w (hs.getD i nS) ((ls.getD i []).map g)
def elgF (g:Int→Value) (hs:List Value) (ls:List (List Int)) (x:Nat):Prop:=∃ i,i < ls.length∧(ls.getD i []).map g ≠ []∧(hs.getD i nS).ownBlock = some x
theorem elgP.keep {g:Int→Value} {w w':World} {hs:List Value} {ls:List (List Int)} (h:elgP g hs ls w) (hb:∀ b,elgF g hs ls b→w'.heap[b]? = w.heap[b]?):elgP g hs ls w':=⟨h.1,fun i hi=>(h.2 i hi).of_block fun b hx=>hb b ⟨i,hi,hx⟩⟩
theorem elgP.lt {g:Int→Value} {w:World} {hs:List Value} {ls:List (List Int)} (h:elgP g hs ls w) {b:Nat} (hb:elgF g hs ls b):b < w.heap.size:=by obtain ⟨i,hi,hx⟩:=hb;exact (h.2 i hi).blt hx
def velg (g:Int→Value) (hs:List Value) (ls:List (List Int)):Ch where
 wr:=fun _=>False
 rd:=fun _=>False
 bd:=elgF g hs ls
 P:=elgP g hs ls
 loc:=fun h hb=>h.keep fun b h=>hb b (.inr (.inr h))
 lt:=fun h hb=>by rcases hb with hb | hb | hb;exact hb.elim;exact hb.elim;exact h.lt hb
def relg (g:Int→Value) (hs:List Value) (ls:List (List Int)):Ch where
 wr:=fun _=>False
 rd:=elgF g hs ls
 bd:=fun _=>False
 P:=elgP g hs ls
 loc:=fun h hb=>h.keep fun b h=>hb b (.inr (.inl h))
 lt:=fun h hb=>by rcases hb with hb | hb | hb;exact hb.elim;exact h.lt hb;exact hb.elim
instance (g:Int→Value) (hs:List Value) (ls:List (List Int)):Lent (velg g hs ls):=⟨fun _=>⟨fun h=>h,fun h=>h⟩⟩
instance (g:Int→Value) (hs:List Value) (ls:List (List Int)):NoB (relg g hs ls):=⟨fun _ h=>h⟩
theorem has_velg {g:Int→Value} {F:List Ch} {hs:List Value} {ls:List (List Int)} (h:velg g hs ls ∈ F):Has F (velg g hs ls):=⟨fun _ hw=>hw.h _ h,fun _ h=>h,fun _ h=>h,fun _ hb=>⟨_,h,hb⟩⟩
theorem has_elg {g:Int→Value} {F:List Ch} {hs:List Value} {ls:List (List Int)} {i:Nat} (h:Has F (velg g hs ls)) (hi:i < ls.length):Has F (vw (hs.getD i nS) ((ls.getD i []).map g)):=
 ⟨fun w hw=>(h.P w hw).2 i hi,fun _ h=>h,fun _ h=>h,fun b hb=>h.ft b (by rcases hb with hb | hb | hb;exact hb.elim;exact hb.elim;exact .inr (.inr ⟨i,hi,hb⟩))⟩
section
variable {P:Program} {E:Env P} {n:Sh} {X:Cx} {s:List K} {fr:Fr} {A:List Ch} {c0:Code} {g:Int→Value}
end
end Go.Art
namespace Go.Art
open Go Go.Proofs Go.RowKit
attribute [local irreducible] Fit pt own ro vw mpc lpt vels rels mow lrc dfr
theorem one_nil:∀ c ∈ ([]:List Value),c.oneCell' = true:=fun _ h=>nomatch h
theorem one_cons {c:Value} {l:List Value} (h:c.oneCell' = true) (k:∀ c ∈ l,c.oneCell' = true):∀ x ∈ c :: l,x.oneCell' = true:=fun x hx=>by
 rcases List.mem_cons.1 hx with rfl | hx
 ·exact h
 ·exact k x hx
section
variable {P:Program} {E:Env P} {n:Sh} {X:Cx} {s:List K} {fr:Fr} {A A':List Ch} {ops:Array Oper} {rest:List Oper} {d:Nat} {ty t T:TypeId} {pos:String} {after:Array Edge} {z:Value} {x y:Operand} {b j sz by_:Nat} {cs vs cs':List Value}
theorem srz (k:TO E n X s ops rest fr (pt b cs' T :: A')) (ha:ev fr x = some (.pointer (some ⟨b,j,none⟩)):=by rfl) (hm:Tk (pt b cs T) A A':=by exact tkA) (hx:ev fr y = some (.agg vs.toArray):=by rfl) (hi:lk E.inf t = some (z,sz,by_):=by rfl) (hl:vs.length = sz:=by rfl)
  (h1:∀ v ∈ vs,v.oneCell' = true:=by (repeat (first | exact one_nil | refine one_cons (by first | rfl | assumption) ?_));first | done | fail) (hj:j + sz ≤ cs.length:=by decide) (hs:cs.take j ++ vs ++ cs.drop (j + sz) = cs':=by rfl):TO E n X s ops (⟨none,.store t x y,ty,pos,after,none⟩ :: rest) fr A:=sra k ha hm hx hi hl h1 hj hs
end
abbrev y8:Int→Value:=.int .u8
abbrev By (l:List Int):List Value:=l.map y8
end Go.Art
namespace Go.Art
open Go Go.Proofs Go.RowKit
section
variable {P:Program} {E:Env P} {n:Sh} {X:Cx} {s:List K} {fr:Fr} {A A' G D:List Ch} {ops:Array Oper} {rest:List Oper} {d:Nat} {ty t t' T:TypeId} {pos:String} {after:Array Edge} {x y:Operand} {w:World} {p q:Int}
theorem res_a1 {fn:Func} {a:Act} (ha:Holds n a fr) {t:Nat} {ty T:TypeId} {dt:TypeDesc} {z:Value} {sz by_ b:Nat} {cs vs:List Value} (hr:fn.results = #[.cell t ty]) (ht:lk E.und ty = some dt) (hg:aggB dt = true) (hi:lk E.inf ty = some (z,sz,by_)) (h1:get fr t = some (ptr b))
  (hb:w.heap[b]? = some (.cells cs.toArray T (0,0))) (hv:cs.take sz = vs) (hl:vs.length = sz):(results fn a.tmps).run P w = .ok (.agg vs.toArray) w:=by
 obtain ⟨inf,g1,_,g2,_⟩:=E.info hi
 have h3:=run_loadCells_list (P:=P) w ⟨b,0,none⟩ vs (fun m u hm=>by
  rw [Addr.add_lit]
  refine blk_cell hb ?_
  rw [← hv,List.getElem?_take] at hm
  split at hm
  ·simpa using hm
  ·cases hm)
 rw [hl] at h3
 have e1:a.tmps[t]?.getD undef = ptr b:=by have:=ha.slot t _ h1;simpa using this
 simp only [results,hr]
 simp [e1,asAddr,loadVar,aggB_t (w:=w) ht hg,sizeOf,typeInfo,g1,g2,h3]
theorem rca1 {w0:World} {A0:List Ch} {R':Value→List Ch→Prop} {fn:Func} {t nn:Nat} {ty T:TypeId} {dt:TypeDesc} {z:Value} {sz by_ b:Nat} {cs vs:List Value} (h:R' (.agg vs.toArray) D) (hr:fn.results = #[.cell t ty]:=by rfl) (ht:lk E.und ty = some dt:=by rfl) (hg:aggB dt = true:=by rfl) (hi:lk E.inf ty = some (z,sz,by_):=by rfl)
  (hv:get fr t = some (ptr b):=by rfl) (hm:pt b cs T ∈ A:=by exact memA) (hcs:cs.take sz = vs:=by rfl) (hl:vs.length = sz:=by rfl) (hf:Fit A D G:=by exact fitA) (nb:∀ c ∈ D,∀ b,¬ c.bd b:=by (repeat (first | exact nb0 | refine nb1 ?_));first | done | fail) :
  TX E ⟨nn,[],none⟩ ⟨bodyPost P fn (RetP (PR w0 A0 R')),w0,A0⟩ [] .ret fr A:=⟨fun w hw=>⟨fun a ha=>
 bodyPost_ret (res_a1 (E:=E) ha hr ht hg hi hv (hw.mem hm) hcs hl) (ha.defers.trans rfl) ⟨_,rfl,PR.mk h hw hf nb⟩⟩⟩
def clipV (v:Value) (n:Nat):Value:=match v with
 | .slice o _ _=>.slice o n n
 | v=>v
theorem R_clip {el:TypeId} {z v:Value} {by_:Nat} {xs:List Value} {y1 y2:Operand} {k1 k2:IntKind} (ht:lk E.und t = some (.slice el)) (he:lk E.inf el = some (z,1,by_)) (hx:ev fr x = some v) (h1:ev fr y1 = some (.int k1 (xs.length:Int))) (h2:ev fr y2 = some (.int k2 (xs.length:Int))) (hs:Sl w v xs) :
  OpV P n fr (.slice t x none (some y1) (some y2)) ty w (clipV v xs.length) w:=⟨fun a ha _ _ _ _=>by
 obtain ⟨inf,hi,_,hsz,_⟩:=E.info he
 obtain ⟨o,c,rfl,g1,g2,g3⟩:=hs
 have b1:∀ (k:IntKind) (m:Nat) (cd:BoundsCode),xs.length ≤ m→(Instr.sliceBound (.int k (xs.length:Int)) m cd).run P w = .ok xs.length w:=fun k m cd hm=>by
  have:(0:Int) ≤ (xs.length:Int)∧(xs.length:Int) ≤ (m:Int):=by omega
  simp [Instr.sliceBound,asIntOf,this]
 simp only [execOp,ha.ev hx]
 simp only [Option.map,ha.ev h1,ha.ev h2]
 cases o with
 | none=>simp [Instr.sliceAt,Instr.slice,run_underlying (P:=P) (E.un ht) w,Instr.sliceBounds,sizeOf,typeInfo,hi,hsz,b1 _ _ _ g1,b1 _ _ _ (Nat.le_refl _),clipV]
 | some ad=>
  have e:ad.add 0 = ad:=by unfold Addr.add;simp
  simp [Instr.sliceAt,Instr.slice,run_underlying (P:=P) (E.un ht) w,Instr.sliceBounds,sizeOf,typeInfo,hi,hsz,b1 _ _ _ g1,b1 _ _ _ (Nat.le_refl _),clipV,e]⟩
theorem im_clip (e:TypeId) (v:Value) (xs:List Value):Im1 (own e v xs) (own e (clipV v xs.length) xs):=by
 have hb:(clipV v xs.length).ownBlock = v.ownBlock:=by cases v <;> first | rfl | (rename_i a _ _;cases a <;> rfl)
 refine ⟨fun w h=>?_,fun b h=>?_,fun _ h=>h.elim,fun b h=>?_⟩
 ·rcases h with ⟨rfl,rfl⟩ | ⟨b,o,cap,cur,rfl,h1,h2,h3,h4,h5⟩
  ·exact .inl ⟨rfl,rfl⟩
  ·exact .inr ⟨b,o,xs.length,cur,rfl,h1,Nat.le_refl _,by omega,by omega,h5⟩
 ·show v.ownBlock = some b;rw [← hb];exact h
 ·rcases h with h | h | h
  ·exact .inl (by show v.ownBlock = some b;rw [← hb];exact h)
  ·exact h.elim
  ·exact h.elim
theorem clpo {el e:TypeId} {z v:Value} {by_:Nat} {xs:List Value} {y1 y2:Operand} {k1 k2:IntKind} (k:TO E n X s ops rest ((d,clipV v xs.length) :: fr) (own e (clipV v xs.length) xs :: A')) (hx:ev fr x = some v:=by rfl) (hm:Tk (own e v xs) A A':=by exact tkA) (h1:ev fr y1 = some (.int k1 (xs.length:Int)):=by rfl) (h2:ev fr y2 = some (.int k2 (xs.length:Int)):=by rfl)
  (ht:lk E.und t = some (.slice el):=by rfl) (he:lk E.inf el = some (z,1,by_):=by rfl) (hd:Nat.blt d n.n = true:=by rfl):TO E n X s ops (⟨some d,.slice t x none (some y1) (some y2),ty,pos,after,none⟩ :: rest) fr A:=by
 refine TO.im hm (TO.val (v:=clipV v xs.length) (fun w hw=>?_) (TO.im (Im1.im (im_clip e v xs) A') k) hd)
 have h3:OwnO w e v xs:=hw.h (own e v xs) (List.Mem.head _)
 exact R_clip ht he hx h1 h2 h3.sl
end
def slCl (v:Value) (lo hi:Nat):Value:=clipV (slSub v lo hi) (hi - lo)
section
variable {P:Program} {E:Env P} {n:Sh} {X:Cx} {s:List K} {fr:Fr} {A A':List Ch} {ops:Array Oper} {rest:List Oper} {d:Nat} {ty t t':TypeId} {pos:String} {after:Array Edge} {x y y2 y3:Operand} {v u z:Value} {by_:Nat} {xs:List Value} {w:World} {lo hi:Int} {k1 k2 k3:IntKind}
end
end Go.Art
namespace Go.Art
open Go Go.Proofs Go.RowKit
def unI:List Value→Option (List Int)
 | []=>some []
 | .int .i64 x :: r=>match unI r with
  | some a=>some (x :: a)
  | none=>none
 | _=>none
theorem unI_eq:∀ {vs:List Value} {l:List Int},unI vs = some l→vs = Is l
 | [],l,h=>by cases h;rfl
 | .int .i64 x :: r,l,h=>by
  cases ha:unI r with
  | none=>simp [unI,ha] at h
  | some a=>simp [unI,ha] at h;subst h;rw [unI_eq ha];rfl
def unB:List Value→Option (List Int)
 | []=>some []
 | .int .u8 x :: r=>match unB r with
  | some a=>some (x :: a)
  | none=>none
 | _=>none
section
variable {P:Program} {E:Env P} {n:Sh} {X:Cx} {s:List K} {fr:Fr} {A A':List Ch} {ops:Array Oper} {rest:List Oper} {d m:Nat} {ty t e:TypeId} {pos:String} {after:Array Edge} {v z:Value} {x y:Operand} {by_:Nat} {parts:List (Nat × Operand)} {vs:List Value}
theorem slz {l:List Int} (k:∀ v',v'.oneCell' = true→TO E n X s ops rest ((d,v') :: fr) (own e v' (Is l) :: A)) (hp:parts = idxP 0 (parts.map (·.2)):=by rfl) (hv:evs fr (parts.map (·.2)) = some vs:=by rfl) (hi:unI vs = some l:=by rfl)
  (hk:l.length = m:=by rfl) (hk0:Nat.blt 0 m = true:=by rfl) (hkm:Nat.ble m 16777216 = true:=by rfl) (ht:lk E.und t = some (.slice e):=by rfl) (he:lk E.inf e = some (z,1,by_):=by rfl) (hd:Nat.blt d n.n = true:=by rfl) :
  TO E n X s ops (⟨some d,.buildSlice t m parts.toArray,ty,pos,after,none⟩ :: rest) fr A:=by
 have:=unI_eq hi
 subst this
 exact sli (fun v=>TO.one (v:=v) (xs:=Is l) (fun h=>k v h) hasA) hp hv (Is_one l) (by rw [Is_len];exact hk) hk0 hkm ht he hd
end
section
variable {P:Program} {E:Env P} {n:Sh} {X:Cx} {s:List K} {fr:Fr} {A A':List Ch} {ops:Array Oper} {rest:List Oper} {d j by_:Nat} {ty t el:TypeId} {pos:String} {after:Array Edge} {v z:Value} {x y:Operand} {l:List Int} {dt:TypeDesc} {m:Int}
end
theorem Tr.law {P:Program} {f:FuncId} {args:List Value} {pre:List Ch} (h:Tr P f args pre [] fun v D=>v = .bool true∧D = []) {w:World} (hw:Sat pre w):Fn P f args w fun v w'=>v = .bool true∧Ext w w':=
 (h.fn hw).mono fun _ _ ⟨he,_,⟨hv,_⟩,_⟩=>⟨hv,he⟩
end Go.Art
namespace Go.Art
open Go Go.Proofs Go.RowKit
abbrev Bo (l:List Bool):List Value:=l.map Value.bool
section
variable {P:Program} {E:Env P} {n:Sh} {X:Cx} {s:List K} {fr:Fr} {A A':List Ch} {ops:Array Oper} {rest:List Oper} {d:Nat} {ty t el:TypeId} {pos:String} {after:Array Edge} {z v:Value} {x y:Operand} {by_:Nat}
end
section
variable {P:Program} {E:Env P} {n:Sh} {X:Cx} {s:List K} {fr:Fr} {A A':List Ch} {ops:Array Oper} {rest:List Oper} {d:Nat} {ty t:TypeId} {pos:String} {after:Array Edge} {x y:Operand} {v u z:Value} {by_:Nat} {l news:List Int}
end
theorem lpt_at {A:List Ch} {w:World} {b:Nat} {cs:List Value} {T:TypeId} (h:lpt b cs T ∈ A) (hw:Sat A w):w.heap[b]? = some (.cells cs.toArray T (0,0)):=hw.h (lpt b cs T) h
end Go.Art
namespace Go.Art
open Go Go.Proofs Go.RowKit
section
variable {P:Program} {E:Env P} {n:Sh} {X:Cx} {s:List K} {fr:Fr} {A:List Ch} {ops:Array Oper} {rest:List Oper} {d:Nat} {ty t t':TypeId} {pos:String} {after:Array Edge} {x y:Operand} {b1 b2:Bool}
theorem R_bne {w:World} (hx:ev fr x = some (.bool b1)) (hy:ev fr y = some (.bool b2)) (ht:lk E.und t = some .bool):OpV P n fr (.binOp .neq t x y t') ty w (.bool (!(b1 == b2))) w:=⟨fun a ha _ _ _ _=>by
 have hg:(eqGuard .neq t x y (.bool b1) (.bool b2)).run P w = .ok () w:=rfl
 simp only [execOp,ha.ev hx,ha.ev hy]
 simp [hg,run_neq_bool (P:=P) w t b1 b2 (E.un ht)]⟩
theorem ibn (k:TO E n X s ops rest ((d,.bool (!(b1 == b2))) :: fr) A) (hx:ev fr x = some (.bool b1):=by rfl) (hy:ev fr y = some (.bool b2):=by rfl) (ht:lk E.und t = some .bool:=by rfl) (hd:Nat.blt d n.n = true:=by rfl) :
  TO E n X s ops (⟨some d,.binOp .neq t x y t',ty,pos,after,none⟩ :: rest) fr A:=TO.val (fun _ _=>R_bne hx hy ht) k hd
end
def bnd (C:List Ch):Ch where
 wr:=wrs C
 rd:=rds C
 bd:=fun b=>∃ c ∈ C,c.bd b
 P:=Sat C
 loc:=fun h hb=>⟨h.ap,fun c hc=>c.loc (h.h c hc) fun b hf=>hb b (by
  rcases hf with hf | hf | hf
  ·exact .inl ⟨c,hc,hf⟩
  ·exact .inr (.inl ⟨c,hc,hf⟩)
  ·exact .inr (.inr ⟨c,hc,hf⟩))⟩
 lt:=fun h hb=>h.lt (by
  rcases hb with ⟨c,hc,hf⟩ | ⟨c,hc,hf⟩ | ⟨c,hc,hf⟩
  ·exact ⟨c,hc,.inl hf⟩
  ·exact ⟨c,hc,.inr (.inl hf)⟩
  ·exact ⟨c,hc,.inr (.inr hf)⟩)
theorem bnd_ft {C:List Ch} {b:Nat}:(bnd C).ft b ↔ fts C b:=by
 constructor
 ·rintro (⟨c,hc,hf⟩ | ⟨c,hc,hf⟩ | ⟨c,hc,hf⟩)
  ·exact ⟨c,hc,.inl hf⟩
  ·exact ⟨c,hc,.inr (.inl hf)⟩
  ·exact ⟨c,hc,.inr (.inr hf)⟩
 ·rintro ⟨c,hc,hf | hf | hf⟩
  ·exact .inl ⟨c,hc,hf⟩
  ·exact .inr (.inl ⟨c,hc,hf⟩)
  ·exact .inr (.inr ⟨c,hc,hf⟩)
theorem bnd_wrs {C F:List Ch} {b:Nat}:wrs (bnd C :: F) b ↔ wrs (C ++ F) b:=by
 rw [wrs_app]
 constructor
 ·rintro ⟨x,hx,hb⟩
  rcases List.mem_cons.1 hx with rfl | hx
  ·exact .inl hb
  ·exact .inr ⟨x,hx,hb⟩
 ·rintro (h | ⟨x,hx,hb⟩)
  ·exact ⟨_,List.Mem.head _,h⟩
  ·exact ⟨x,List.mem_cons_of_mem _ hx,hb⟩
theorem bnd_rds {C F:List Ch} {b:Nat}:rds (bnd C :: F) b ↔ rds (C ++ F) b:=by
 rw [rds_app]
 constructor
 ·rintro ⟨x,hx,hb⟩
  rcases List.mem_cons.1 hx with rfl | hx
  ·exact .inl hb
  ·exact .inr ⟨x,hx,hb⟩
 ·rintro (h | ⟨x,hx,hb⟩)
  ·exact ⟨_,List.Mem.head _,h⟩
  ·exact ⟨x,List.mem_cons_of_mem _ hx,hb⟩
theorem bnd_fts {C F:List Ch} {b:Nat}:fts (bnd C :: F) b ↔ fts (C ++ F) b:=by
 rw [fts_app]
 constructor
 ·rintro ⟨x,hx,hb⟩
  rcases List.mem_cons.1 hx with rfl | hx
  ·exact .inl (bnd_ft.1 hb)
  ·exact .inr ⟨x,hx,hb⟩
 ·rintro (h | ⟨x,hx,hb⟩)
  ·exact ⟨_,List.Mem.head _,bnd_ft.2 h⟩
  ·exact ⟨x,List.mem_cons_of_mem _ hx,hb⟩
theorem bnd_sat {C F:List Ch} {w:World}:Sat (bnd C :: F) w ↔ Sat (C ++ F) w:=by
 rw [Sat.cons,Sat.app]
 constructor
 ·rintro ⟨h1,h2,h3⟩
  refine ⟨h1,h3,fun a ha f hf=>⟨fun b hb hft=>(h2 f hf).1 b ⟨a,ha,hb⟩ hft,fun b hb hft=>(h2 f hf).2 b hb (bnd_ft.2 ⟨a,ha,hft⟩)⟩⟩
 ·rintro ⟨h1,h3,h2⟩
  refine ⟨h1,fun f hf=>⟨fun b hb hft=>?_,fun b hb hft=>?_⟩,h3⟩
  ·obtain ⟨a,ha,hb⟩:=hb;exact (h2 a ha f hf).1 b hb hft
  ·obtain ⟨a,ha,hft⟩:=bnd_ft.1 hft;exact (h2 a ha f hf).2 b hb hft
theorem im_bnd (C F:List Ch):Im (C ++ F) (bnd C :: F):=⟨fun _ h=>bnd_sat.2 h,fun _ h=>bnd_wrs.1 h,fun _ h=>.inr (bnd_rds.1 h),fun _ h=>bnd_fts.1 h⟩
theorem un_bnd (C F:List Ch):Im (bnd C :: F) (C ++ F):=⟨fun _ h=>bnd_sat.1 h,fun _ h=>bnd_wrs.2 h,fun _ h=>.inr (bnd_rds.2 h),fun _ h=>bnd_fts.2 h⟩
theorem bnd_nil (F:List Ch):Im F (bnd [] :: F):=im_bnd [] F
theorem perm_bnd {C D:List Ch} (p:C.Perm D) (F:List Ch):Im (bnd C :: F) (bnd D :: F):=(un_bnd C F).trans ((Im.perm (p.append_right F)).trans (im_bnd D F))
theorem bnd_cons (c:Ch) (C F:List Ch):Im (c :: bnd C :: F) (bnd (c :: C) :: F):=(Im.cons c (un_bnd C F)).trans (im_bnd (c :: C) F)
theorem bnd_snoc (c:Ch) (C F:List Ch):Im (c :: bnd C :: F) (bnd (C ++ [c]) :: F):=(bnd_cons c C F).trans (perm_bnd (by simpa using (List.perm_append_comm (l₁:=[c]) (l₂:=C))) F)
theorem bnd_uncons (c:Ch) (C F:List Ch):Im (bnd (c :: C) :: F) (c :: bnd C :: F):=(un_bnd (c :: C) F).trans (Im.cons c (im_bnd C F))
theorem perm_get {α:Type}:∀ {C:List α} {i:Nat} {c:α},C[i]? = some c→C.Perm (c :: C.eraseIdx i)
 | [],_,_,h=>by simp at h
 | a :: C,0,c,h=>by simp at h;subst h;exact List.Perm.refl _
 | a :: C,i + 1,c,h=>by
  have:=perm_get (C:=C) (i:=i) (c:=c) (by simpa using h)
  simp only [List.eraseIdx_cons_succ]
  exact (this.cons a).trans (List.Perm.swap _ _ _)
theorem bnd_take {C:List Ch} {i:Nat} {c:Ch} (h:C[i]? = some c) (F:List Ch):Im (bnd C :: F) (c :: bnd (C.eraseIdx i) :: F):=(perm_bnd (perm_get h) F).trans (bnd_uncons c _ F)
theorem bnd_put {C:List Ch} {i:Nat} (d:Ch) (h:i < C.length) (F:List Ch):Im (d :: bnd (C.eraseIdx i) :: F) (bnd (C.set i d) :: F):=by
 have e:(C.set i d).eraseIdx i = C.eraseIdx i:=by simp [List.eraseIdx_set_eq]
 have p:=perm_get (C:=C.set i d) (i:=i) (c:=d) (by simp [h])
 rw [e] at p
 exact (bnd_cons d _ F).trans (perm_bnd p.symm F)
def owls (e:TypeId) (g:Int→Value) (hs:List Value) (ls:List (List Int)):List Ch:=List.zipWith (fun h l=>own e h (l.map g)) hs ls
def owl (e:TypeId) (g:Int→Value) (hs:List Value) (ls:List (List Int)):Ch:=bnd (owls e g hs ls)
theorem owls_nb {e:TypeId} {g:Int→Value} {hs:List Value} {ls:List (List Int)}:∀ c ∈ owls e g hs ls,∀ b,¬ c.bd b:=fun c hc b hb=>by
 unfold owls at hc
 rw [List.mem_iff_getElem] at hc
 obtain ⟨i,hi,rfl⟩:=hc
 rw [List.getElem_zipWith] at hb
 exact hb
instance {e:TypeId} {g:Int→Value} {hs:List Value} {ls:List (List Int)}:NoB (owl e g hs ls):=⟨fun b ⟨c,hc,hb⟩=>owls_nb c hc b hb⟩
theorem owls_get {e:TypeId} {g:Int→Value} {hs:List Value} {ls:List (List Int)} (hl:hs.length = ls.length) {i:Nat} (h:i < ls.length):(owls e g hs ls)[i]? = some (own e (hs.getD i nS) ((ls.getD i []).map g)):=by
 unfold owls
 rw [List.getElem?_zipWith,List.getD_eq_getElem?_getD,List.getD_eq_getElem?_getD,List.getElem?_eq_getElem h,List.getElem?_eq_getElem (show i < hs.length by omega)]
 rfl
theorem owl_nil {e:TypeId} {g:Int→Value} (F:List Ch):Im F (owl e g [] [] :: F):=bnd_nil F
theorem owl_snoc {e:TypeId} {g:Int→Value} {hs:List Value} {ls:List (List Int)} (hl:hs.length = ls.length) (v:Value) (l:List Int) (F:List Ch):Im (own e v (l.map g) :: owl e g hs ls :: F) (owl e g (hs ++ [v]) (ls ++ [l]) :: F):=by
 have h:owls e g (hs ++ [v]) (ls ++ [l]) = owls e g hs ls ++ [own e v (l.map g)]:=by unfold owls;rw [List.zipWith_append hl];rfl
 unfold owl
 rw [h]
 exact bnd_snoc _ _ F
theorem owl_push {e:TypeId} {g:Int→Value} {hs:List Value} {ls:List (List Int)} {v:Value} {l:List Int} {A F:List Ch} (hl:hs.length = ls.length) (hf:Fit A [own e v (l.map g),owl e g hs ls] F):Im A (owl e g (hs ++ [v]) (ls ++ [l]) :: F):=Im.trans hf (owl_snoc hl v l F)
theorem owl_uncons {e:TypeId} {g:Int→Value} {h:Value} {l:List Int} {hs:List Value} {ls:List (List Int)} (F:List Ch):Im (owl e g (h :: hs) (l :: ls) :: F) (own e h (l.map g) :: owl e g hs ls :: F):=bnd_uncons _ _ F
theorem owl_pop {e:TypeId} {g:Int→Value} {h:Value} {l:List Int} {hs:List Value} {ls:List (List Int)} {A F:List Ch} (hf:Fit A [owl e g (h :: hs) (l :: ls)] F):Im A (own e h (l.map g) :: owl e g hs ls :: F):=Im.trans hf (owl_uncons F)
theorem drop_getD {α:Type} {l:List α} {i:Nat} (h:i < l.length) (z:α):l.drop i = l.getD i z :: l.drop (i + 1):=by rw [List.drop_eq_getElem_cons h];simp [List.getD_eq_getElem?_getD,h]
theorem has_owl {e:TypeId} {g:Int→Value} {hs:List Value} {ls:List (List Int)} {F:List Ch} (hl:hs.length = ls.length) (h:owl e g hs ls ∈ F):Has F (velg g hs ls):=by
 refine ⟨fun w hw=>⟨hl,fun i hi=>?_⟩,fun b h=>h,fun b h=>h,fun b hb=>⟨_,h,?_⟩⟩
 ·have h1:Sat (owls e g hs ls) w:=hw.h _ h
  have h2:OwnO w e (hs.getD i nS) ((ls.getD i []).map g):=h1.h _ (List.mem_of_getElem? (owls_get hl hi))
  exact h2.sl
 ·rcases hb with hb | hb | ⟨i,hi,_,hx⟩
  ·exact hb.elim
  ·exact hb.elim
  ·exact .inl ⟨_,List.mem_of_getElem? (owls_get hl hi),hx⟩
end Go.Art
namespace Go.Art
open Go Go.Proofs Go.RowKit
def dfrl (Ds:List Nat):Ch where
 wr:=fun x=>x ∈ Ds
 rd:=fun _=>False
 bd:=fun _=>False
 P:=fun w=>Ds.Nodup∧∀ D ∈ Ds,w.heap[D]? = some (.deferred (some []))
 loc:=fun h hb=>⟨h.1,fun D hD=>(hb D (.inl hD)).trans (h.2 D hD)⟩
 lt:=fun h hb=>by rcases hb with hb | hb | hb;exact lt_of_heap (h.2 _ hb);exact hb.elim;exact hb.elim
instance (Ds:List Nat):NoB (dfrl Ds):=⟨fun _ h=>h⟩
theorem dfrl_nil (A:List Ch):Im A (dfrl [] :: A):=by
 have h0:∀ b,¬ (dfrl []).ft b:=by rintro b (h | h | h);cases h;exact h;exact h
 refine ⟨fun w hw=>Sat.cons.2 ⟨⟨.nil,fun D hD=>nomatch hD⟩,fun a _=>⟨fun b hb=>absurd (.inl hb) (h0 b),fun b _ hf=>h0 b hf⟩,hw⟩,fun b hb=>?_,fun b hb=>?_,fun b hb=>?_⟩
 ·obtain ⟨x,hx,hb⟩:=hb
  rcases List.mem_cons.1 hx with rfl | hx
  ·exact absurd (.inl hb) (h0 b)
  ·exact ⟨x,hx,hb⟩
 ·obtain ⟨x,hx,hb⟩:=hb
  rcases List.mem_cons.1 hx with rfl | hx
  ·exact hb.elim
  ·exact .inr ⟨x,hx,hb⟩
 ·obtain ⟨x,hx,hb⟩:=hb
  rcases List.mem_cons.1 hx with rfl | hx
  ·exact absurd hb (h0 b)
  ·exact ⟨x,hx,hb⟩
theorem dfrl_cons (D:Nat) (Ds:List Nat) (A:List Ch):Im (dfr D :: dfrl Ds :: A) (dfrl (D :: Ds) :: A):=by
 refine Im.trans (im_bnd [dfr D,dfrl Ds] A) (Im1.im (c:=bnd [dfr D,dfrl Ds]) (d:=dfrl (D :: Ds)) ⟨fun w h=>?_,fun b h=>?_,fun b h=>(False.elim h),fun b h=>?_⟩ A)
 ·have h:Sat [dfr D,dfrl Ds] w:=h
  obtain ⟨h1,h2,h3⟩:=Sat.cons.1 h
  have h4:Ds.Nodup∧∀ D ∈ Ds,w.heap[D]? = some (.deferred (some [])):=h3.h (dfrl Ds) (List.Mem.head _)
  refine ⟨List.nodup_cons.2 ⟨fun hm=>(h2 (dfrl Ds) (List.Mem.head _)).1 D rfl (.inl hm),h4.1⟩,fun x hx=>?_⟩
  rcases List.mem_cons.1 hx with rfl | hx
  ·exact h1
  ·exact h4.2 x hx
 ·rcases List.mem_cons.1 h with rfl | h
  ·exact ⟨dfr b,List.Mem.head _,rfl⟩
  ·exact ⟨dfrl Ds,by simp,h⟩
 ·rcases h with h | h | h
  ·rcases List.mem_cons.1 h with rfl | h
   ·exact .inl ⟨dfr b,List.Mem.head _,rfl⟩
   ·exact .inl ⟨dfrl Ds,by simp,h⟩
  ·exact h.elim
  ·exact h.elim
theorem dfrl_push {D:Nat} {Ds:List Nat} {A F:List Ch} (hf:Fit A [dfr D,dfrl Ds] F):Im A (dfrl (D :: Ds) :: F):=Im.trans hf (dfrl_cons D Ds F)
abbrev marks (Ds:List Nat):List Deferred:=Ds.map mark
section
variable {P:Program} {E:Env P} {m:Nat} {Q0:Exit→Act→World→Prop} {s:List K} {fr:Fr} {w:World} {c c0:Code} {X:Cx} {A A' B F G D:List Ch} {ops:Array Oper} {rest:List Oper} {d:Nat} {ty t e:TypeId} {pos:String} {after:Array Edge} {v u:Value} {x y:Operand} {n:Sh}
def LoopKD (m:Nat) {ι:Type} (ds:ι→List Nat) (inv:ι→Fr) (I:ι→World→Prop) (μ:ι→Nat) (i:ι) (a:Act) (w:World):Prop:=
 ∃ i',I i' w∧Holds ⟨m,marks (ds i'),none⟩ a (inv i')∧μ i' < μ i
theorem SC_loopD {ι:Type} (ds:ι→List Nat) (inv:ι→Fr) (I:ι→World→Prop) (μ:ι→Nat) (i0:ι) (h0:I i0 w) (hs:Sub (inv i0) fr)
  (round:∀ i w,I i w→SC E ⟨m,marks (ds i),none⟩ Q0 (.loop (LoopKD m ds inv I μ i) :: s) c (inv i) w):SC E ⟨m,marks (ds i0),none⟩ Q0 s (.loop c) fr w:=by
 refine ⟨fun a ha b k cs hro hb hr=>?_⟩
 have key:∀ q i a w,μ i = q→I i w→Holds ⟨m,marks (ds i),none⟩ a (inv i) →
   ∃ e a' w',den P none Q0 s e a' w'∧ArrivesIn (Machine.fenced P (FF none)) P (lone (b.atR a (.code c :: .inLoop c :: k)) cs w) b k cs e a' w':=by
  intro q
  induction q using Nat.strongRecOn with
  | _ q ih=>
   intro i a w hm hI hh
   obtain ⟨e,a₁,w₁,hq,harr⟩:=(round i w hI).run a hh b (.inLoop c :: k) cs hro hb hr
   cases e with
   | normal=>
    obtain ⟨i',hI',hh',hlt⟩:=hq
    obtain ⟨e₂,a₂,w₂,hq₂,harr₂⟩:=ih (μ i') (hm ▸ hlt) i' a₁ w₁ rfl hI' hh'
    exact ⟨e₂,a₂,w₂,hq₂,.of_steps (StepsIn.trans harr (.one (fenced_calm hb hr rfl) stepR_inLoop)) harr₂⟩
   | exit id=>exact ⟨_,a₁,w₁,hq,.pass (x:=.inLoop c) rfl (fun _ _=>.inl (by simp)) harr⟩
   | goto l=>exact ⟨_,a₁,w₁,hq,.pass (x:=.inLoop c) rfl (fun _ _=>.inl (by simp)) harr⟩
   | ret=>exact ⟨_,a₁,w₁,hq,.pass (x:=.inLoop c) rfl (fun _ _=>.inl (by simp)) harr⟩
   | panic ch=>exact ⟨_,a₁,w₁,hq,.pass (x:=.inLoop c) rfl (fun _ _=>.inl (by simp)) harr⟩
   | outgrown=>exact ⟨_,a₁,w₁,hq,.pass (x:=.inLoop c) rfl (fun _ _=>.inl (by simp)) harr⟩
 obtain ⟨e,a',w',hq,harr⟩:=key _ i0 a w rfl h0 (ha.sub hs)
 exact ⟨e,a',w',hq,.of_steps (.one (fenced_calm hb hr rfl) stepR_loop) harr⟩
def LoopTD (m:Nat) (X:Cx) {ι:Type} (ds:ι→List Nat) (inv:ι→Fr) (J:ι→List Ch) (I:ι→Prop) (μ:ι→Nat) (i:ι) (a:Act) (w:World):Prop:=
 ∃ i',I i'∧Holds ⟨m,marks (ds i'),none⟩ a (inv i')∧St X (J i') w∧μ i' < μ i
theorem TC.loopD {ι:Type} (ds:ι→List Nat) (inv:ι→Fr) (J:ι→List Ch) (I:ι→Prop) (μ:ι→Nat) (i0:ι) (keep:List Nat) (h0:I i0)
  (round:pickK keep fr fun kp=>∀ i,I i→TC E ⟨m,marks (ds i),none⟩ X (.loop (LoopTD m X ds (fun i=>inv i ++ kp) (fun i=>J i ++ F) I μ i) :: s) c0 (inv i ++ kp) (J i ++ F)) (hs:Sub (inv i0) fr:=by (repeat (refine Sub.cons rfl (by first | rfl | go_num) ?_));exact Sub.nil) (hf:Fit A (J i0) F:=by exact fitA) (hn:n = ⟨m,marks (ds i0),none⟩:=by rfl):TC E n X s (.loop c0) fr A:=by
 subst hn
 obtain ⟨kp,hk,round⟩:=pickK_sub round
 refine ⟨fun w hw=>?_⟩
 have key:LoopKD m (ι:=ι) ds (fun i=>inv i ++ kp) (fun i w=>I i∧St X (J i ++ F) w) μ = fun i=>LoopTD m X ds (fun i=>inv i ++ kp) (fun i=>J i ++ F) I μ i:=by
  funext i a w
  apply propext
  constructor
  ·rintro ⟨i',⟨h1,h2⟩,h3,h4⟩;exact ⟨i',h1,h3,h2,h4⟩
  ·rintro ⟨i',h1,h3,h2,h4⟩;exact ⟨i',⟨h1,h2⟩,h3,h4⟩
 refine SC_loopD (ι:=ι) ds (fun i=>inv i ++ kp) (fun i w=>I i∧St X (J i ++ F) w) μ i0 ⟨h0,hw.im hf⟩ (Sub.app hs hk) fun i w' ⟨hI,hS⟩=>?_
 rw [key]
 exact (round i hI).run w' hS
theorem lpD {ι:Type} {ds:ι→List Nat} {inv:ι→Fr} {J:ι→List Ch} {I:ι→Prop} {μ:ι→Nat} {i:ι} (i':ι) (h:I i') (hs:Sub (inv i') fr:=by (repeat (refine Sub.cons rfl (by first | rfl | go_num) ?_));exact Sub.nil) (hf:Fit A (J i') G:=by exact fitA) (hlt:μ i' < μ i:=by first | omega | (dsimp only;omega)) (hn:n = ⟨m,marks (ds i'),none⟩:=by rfl) :
  TX E n X (.loop (LoopTD m X ds inv J I μ i) :: s) .normal fr A:=
 ⟨fun w hw=>⟨fun _ ha=>by subst hn;exact ⟨i',h,ha.sub hs,hw.im (Im.trans hf (Im.drop _ _)),hlt⟩⟩⟩
/-! ### Leaving with marks -/
variable {R:Value→World→Prop} {R':Value→List Ch→Prop} {fn:Func} {w0:World} {A0:List Ch}
theorem leaves_marks {tmps:Array Value}:∀ {Ds:List Nat} {w:World},Ds.Nodup→(∀ D ∈ Ds,w.heap[D]? = some (.deferred (some [])))→(∀ w',Upd w w' Ds→LeavesInM (FF none) 0 P fn tmps (RetP R) [] .returning w')→LeavesInM (FF none) 0 P fn tmps (RetP R) (marks Ds) .returning w
 | [],w,_,_,h=>h w (Upd.refl _ _)
 | D :: Ds,w,hn,hD,h=>by
  obtain ⟨h1,h2⟩:=List.nodup_cons.1 hn
  refine leaves_mark (hD D (List.Mem.head _)) fun w1 hU=>leaves_marks h2 (fun y hy=>?_) fun w2 hU2=>h w2 ?_
  ·rw [hU.block y (lt_of_heap (hD y (List.mem_cons_of_mem _ hy))) (fun hm=>by obtain rfl:=List.mem_singleton.1 hm;exact h1 hy)]
   exact hD y (List.mem_cons_of_mem _ hy)
  ·exact hU.then hU2 (fun b hb=>by obtain rfl:=List.mem_singleton.1 hb;exact .inl (List.Mem.head _)) (fun b hb=>.inl (List.mem_cons_of_mem _ hb))
theorem PR.mkL {Q:Exit→Act→World→Prop} {w w':World} {Ds:List Nat} (h:R' v D) (hw:St ⟨Q,w0,A0⟩ (dfrl Ds :: A') w) (hf:Fit A' D G) (nb:∀ c ∈ D,∀ b,¬ c.bd b) (hU:Upd w w' Ds):PR w0 A0 R' v w':=by
 have h2:St ⟨Q,w0,A0⟩ A' w':=hw.step (A:=[dfrl Ds]) (B:=[]) (F:=A') (Mv.upd hU (fun b hb=>.inl (wrs_one.2 hb)) (fun b hb=>absurd hb wrs_nil) (fun b hb=>absurd hb rds_nil)) (Sat.nil _) (by simp)
 have h3:=h2.im (Im.trans hf (Im.drop _ _))
 exact ⟨D,h,h3.sat,h3.mv,nb⟩
theorem St.unmark {Q:Exit→Act→World→Prop} {w w':World} {Ds:List Nat} (hw:St ⟨Q,w0,A0⟩ (dfrl Ds :: A') w) (hU:Upd w w' Ds):Sat A' w':=
 (hw.step (A:=[dfrl Ds]) (B:=[]) (F:=A') (Mv.upd hU (fun b hb=>.inl (wrs_one.2 hb)) (fun b hb=>absurd hb wrs_nil) (fun b hb=>absurd hb rds_nil)) (Sat.nil _) (by simp)).sat
theorem mG {Ds:List Nat} {e:Exit} (he:e = .ret∨e = .normal) (h:R' v D) (hr:∀ w,Sat A' w→∀ a,Holds ⟨m,marks Ds,none⟩ a fr→(results fn a.tmps).run P w = .ok v w) (hm:Tk (dfrl Ds) A A') (hf:Fit A' D G) (nb:∀ c ∈ D,∀ b,¬ c.bd b) :
  TX E ⟨m,marks Ds,none⟩ ⟨bodyPostM (FF none) 0 P fn (RetP (PR w0 A0 R')),w0,A0⟩ [] e fr A:=⟨fun w hw=>⟨fun a ha=>by
 have h1:=hw.im hm
 have h2:Ds.Nodup∧∀ D ∈ Ds,w.heap[D]? = some (.deferred (some [])):=h1.mem (List.Mem.head _)
 have key:LeavesInM (FF none) 0 P fn a.tmps (RetP (PR w0 A0 R')) a.defers .returning w:=by
  rw [ha.defers]
  exact leaves_marks h2.1 h2.2 fun w' hU=>leaves_nil (hr w' (h1.unmark hU) a ha) (PR.mkL h h1 hf nb hU)
 rcases he with rfl | rfl
 ·exact key
 ·exact key⟩⟩
theorem m0 {Ds:List Nat} (h:R' (.tuple #[]) D) (hr:fn.results = #[]:=by rfl) (hm:Tk (dfrl Ds) A A':=by exact tkA) (hf:Fit A' D G:=by exact fitA) (nb:∀ c ∈ D,∀ b,¬ c.bd b:=by (repeat (first | exact nb0 | refine nb1 ?_));first | done | fail) (hn:n = ⟨m,marks Ds,none⟩:=by rfl) :
  TX E n ⟨bodyPostM (FF none) 0 P fn (RetP (PR w0 A0 R')),w0,A0⟩ [] .ret fr A:=by subst hn;exact mG (.inl rfl) h (fun w _ a _=>results_none hr a.tmps P w) hm hf nb
theorem m0e {Ds:List Nat} (h:R' (.tuple #[]) D) (hr:fn.results = #[]:=by rfl) (hm:Tk (dfrl Ds) A A':=by exact tkA) (hf:Fit A' D G:=by exact fitA) (nb:∀ c ∈ D,∀ b,¬ c.bd b:=by (repeat (first | exact nb0 | refine nb1 ?_));first | done | fail) (hn:n = ⟨m,marks Ds,none⟩:=by rfl) :
  TX E n ⟨bodyPostM (FF none) 0 P fn (RetP (PR w0 A0 R')),w0,A0⟩ [] .normal fr A:=by subst hn;exact mG (.inr rfl) h (fun w _ a _=>results_none hr a.tmps P w) hm hf nb
theorem res_cc {a:Act} {n:Sh} (ha:Holds n a fr) {t u:Nat} {ty ty2:TypeId} {d d2:TypeDesc} {ad ad2:Addr} {v1 v2:Value} (hr:fn.results = #[.cell t ty,.cell u ty2]) (ht:lk E.und ty = some d) (hd:aggB d = false) (ht2:lk E.und ty2 = some d2) (hd2:aggB d2 = false)
  (h1:get fr t = some (.pointer (some ad))) (hc:w.cell? ad = some v1) (h2:get fr u = some (.pointer (some ad2))) (hc2:w.cell? ad2 = some v2):(results fn a.tmps).run P w = .ok (.tuple #[v1,v2]) w:=by
 have e1:a.tmps[t]?.getD undef = .pointer (some ad):=by have:=ha.slot t _ h1;simpa using this
 have e2:a.tmps[u]?.getD undef = .pointer (some ad2):=by have:=ha.slot u _ h2;simpa using this
 simp only [results,hr]
 simp [e1,e2,asAddr,loadVar,aggB_run (w:=w) ht hd,aggB_run (w:=w) ht2 hd2,hc,hc2]
theorem mcc {Ds:List Nat} {q q2 b b2:Nat} {ct ct2 T T2:TypeId} {dt dt2:TypeDesc} {v1 v2:Value} (h:R' (.tuple #[v1,v2]) D) (hr:fn.results = #[.cell q ct,.cell q2 ct2]:=by rfl) (hv:get fr q = some (ptr b):=by rfl) (hv2:get fr q2 = some (ptr b2):=by rfl) (hm:Tk (dfrl Ds) A A':=by exact tkA)
  (hp:pt b [v1] T ∈ A':=by exact memA) (hp2:pt b2 [v2] T2 ∈ A':=by exact memA) (ht:lk E.und ct = some dt:=by rfl) (hg:aggB dt = false:=by rfl) (ht2:lk E.und ct2 = some dt2:=by rfl) (hg2:aggB dt2 = false:=by rfl) (hf:Fit A' D G:=by exact fitA) (nb:∀ c ∈ D,∀ b,¬ c.bd b:=by (repeat (first | exact nb0 | refine nb1 ?_));first | done | fail) (hn:n = ⟨m,marks Ds,none⟩:=by rfl) :
  TX E n ⟨bodyPostM (FF none) 0 P fn (RetP (PR w0 A0 R')),w0,A0⟩ [] .ret fr A:=by
 subst hn
 exact mG (.inl rfl) h (fun w hw a ha=>res_cc (E:=E) ha hr ht hg ht2 hg2 hv (ptcell hw hp rfl) hv2 (ptcell hw hp2 rfl)) hm hf nb
/-! ### Slices without spare room, lent -/
theorem clv {el:TypeId} {z:Value} {by_:Nat} {l:List Int} {y1 y2:Operand} {k1 k2:IntKind} (k:TO E n X s ops rest ((d,clipV v l.length) :: fr) A) (hx:ev fr x = some v:=by rfl) (hh:Has A (vw v (Is l)):=by exact hasA) (h1:ev fr y1 = some (.int k1 (l.length:Int)):=by rfl) (h2:ev fr y2 = some (.int k2 (l.length:Int)):=by rfl)
  (ht:lk E.und t = some (.slice el):=by rfl) (he:lk E.inf el = some (z,1,by_):=by rfl) (hd:Nat.blt d n.n = true:=by rfl):TO E n X s ops (⟨some d,.slice t x none (some y1) (some y2),ty,pos,after,none⟩ :: rest) fr A:=by
 rw [← Is_len l] at h1 h2
 exact TO.val (v:=clipV v (Is l).length) (fun w hw=>R_clip ht he hx h1 h2 (hh.P w hw)) (by rwa [Is_len l]) hd
theorem apc {l news:List Int} {z:Value} {by_:Nat} (k:∀ v',v'.oneCell' = true→TO E n X s ops rest ((d,v') :: fr) (own e v' (Is (l ++ news)) :: A)) (hx:ev fr x = some (clipV v l.length):=by rfl) (hy:ev fr y = some u:=by rfl) (hv:Has A (vw v (Is l)):=by exact hasA) (hu:Has A (vw u (Is news)):=by exact hasA)
  (hl:0 < news.length∧l.length + news.length ≤ 17592186044416:=by first | omega | (simp only [List.length_append,List.length_cons,List.length_nil];omega)) (ht:lk E.und t = some (.slice e):=by rfl) (he:lk E.inf e = some (z,1,by_):=by rfl) (hz:z.cells.size = 1:=by rfl) (hb:by_ ≤ 8:=by decide)
  (hd:Nat.blt d n.n = true:=by rfl):TO E n X s ops (⟨some d,.call ⟨.builtin .append,#[x,y],#[t,t]⟩,ty,pos,after,none⟩ :: rest) fr A:=⟨fun w hw=>by
 obtain ⟨inf,hi,hiz,his,hib⟩:=E.info he
 have ht':=E.un ht
 have hbm:(l.length + news.length) * inf.bytes ≤ 140737488355328:=by rw [← hib] at hb;have:=Nat.mul_le_mul hl.2 hb;omega
 obtain ⟨o,c0,rfl,g1,g2,g3⟩:=(hv.P w hw.sat:Sl w v (Is l))
 obtain ⟨a,cu,rfl,hn1,hn2,hcell⟩:=(hu.P w hw.sat:Sl w u (Is news))
 have hpos:0 < (Is news).length:=by rw [Is_len];exact hl.1
 obtain ⟨ad,rfl,_⟩:=hcell 0 (Is news)[0] (List.getElem?_eq_getElem hpos)
 have hnews:∀ j c,(Is news)[j]? = some c→w.cell? (ad.add j) = some c:=fun j c hj=>by
  obtain ⟨y,hy,hc⟩:=hcell j c hj
  cases hy;exact hc
 have hln:(Is news).length = news.length * inf.size:=by rw [his,Nat.mul_one,Is_len]
 have hlo:(Is l).length = l.length * inf.size:=by rw [his,Nat.mul_one,Is_len]
 have key:∃ old,(Builtin.append_ #[t,t] ty #[clipV (.slice o (Is l).length c0) l.length,.slice (some ad) (Is news).length cu]).run P w = .ok (.slice (some ⟨w.heap.size,0,none⟩) (l.length + news.length) (grownCap w (l.length + news.length) old e)) (w.drew.alloc (.cells ((Is l ++ Is news).toArray ++ Builtin.zeroCells z.cells (grownCap w (l.length + news.length) old e - (l.length + news.length))) e)):=by
  rw [Is_len news]
  show ∃ old,(Builtin.append_ #[t,t] ty #[.slice o l.length l.length,.slice (some ad) news.length cu]).run P w = _
  cases o with
  | none=>
   have h0:l = []:=by
    cases l with
    | nil=>rfl
    | cons y r=>obtain ⟨x,hx,_⟩:=g3 0 (I y) rfl;cases hx
   subst h0
   have hr:=run_append_nil (P:=P) w t ty e inf z ht' hi hiz ad news.length cu (Is news) hln hnews hl.1 (by omega) (by simp at hbm;omega)
   refine ⟨0,?_⟩
   rw [List.length_nil,Nat.zero_add,show Is [] ++ Is news = Is news from rfl]
   exact hr
  | some b=>
   have hold:∀ j c,(Is l)[j]? = some c→w.cell? (b.add j) = some c:=fun j c hj=>by
    obtain ⟨x,hx,hc⟩:=g3 j c hj
    cases hx;exact hc
   have hr:=run_append_grow (P:=P) w t ty e inf z ht' hi hiz b l.length l.length (Is l) hlo hold ad news.length cu (Is news) hln hnews (by omega) (by omega) (growslice_fits (by omega) hbm)
   exact ⟨l.length,by rw [hr];simp⟩
 obtain ⟨old,hr⟩:=key
 generalize clipV (.slice o (Is l).length c0) l.length = cv at hx hr
 generalize Value.slice (some ad) (Is news).length cu = uv at hy hr
 have hge:=grownCap_ge w (l.length + news.length) old e
 have hml:grownCap w (l.length + news.length) old e ≤ maxLen:=grownCap_le_maxLen w _ old e (by unfold maxLen;omega)
 refine SO_v hd (w':=w.drew.alloc (.cells ((Is l ++ Is news).toArray ++ Builtin.zeroCells z.cells (grownCap w (l.length + news.length) old e - (l.length + news.length))) e)) ⟨fun a ha' _ _ _ _=>?_⟩ ((k _ rfl).run _ (hw.new (c:=own e (.slice (some ⟨w.heap.size,0,none⟩) (l.length + news.length) (grownCap w (l.length + news.length) old e)) (Is (l ++ news))) ((Upd.drew w).trans (Upd.alloc w.drew _)) ?_ ?_ (fun _ h=>h)))
 ·simp only [execOp,resolve]
  simp [ha'.ev hx,ha'.ev hy,invoke,builtin,hr]
 ·refine .inr ⟨w.heap.size,0,_,_,by rw [Is_len,List.length_append],heap_alloc_new w.drew _,by rw [Is_len,List.length_append];exact hge,hml,?_,?_⟩
  ·simp only [Array.size_append,List.size_toArray,size_zeroCells,hz,Nat.mul_one,List.length_append,Is_len];omega
  ·simp only [Array.toList_append,List.drop_zero,Is_app]
   exact List.take_left
 ·rintro b (hb' | hb' | hb')
  ·have hb':some w.heap.size = some b:=hb'
   cases hb';exact Nat.le_refl _
  ·exact hb'.elim
  ·exact hb'.elim⟩
end
end Go.Art
namespace Go.Art
open Go Go.Proofs
def renSort:Shelf.Ren:=
{
 f:=fun x=>
  match x with
  | 189=>192
  | 125=>238
  | 257=>237
  | 128=>286
  | 129=>186
  | 294=>277
  | 295=>278
  | 296=>279
  | 297=>280
  | 298=>281
  | 299=>282
  | 216=>283
  | 300=>284
  | 301=>285
  | 328=>293
  | 329=>294
  | 330=>295
  | 331=>296
  | 332=>297
  | 215=>298
  | 343=>299
  | n=>n,
 t:=fun x=>
  match x with
  | 28=>22
  | 3=>3
  | 46=>230
  | 0=>0
  | 51=>267
  | 53=>145
  | 4=>4
  | 183=>262
  | 182=>261
  | 131=>241
  | 5=>5
  | 9=>9
  | 218=>272
  | 222=>276
  | 228=>278
  | 229=>279
  | n=>n,
 g:=fun x=>
  have n:=x;
  n }
theorem laysSort:Lays.n189 Tryz.prog renSort:=
{mixed:=Eq.refl true,f125:=Eq.trans Tryz.func238 (congrArg some (Eq.refl (Body.n125 renSort))),
 f128:=Eq.trans Tryz.func286 (congrArg some (Eq.refl (Body.n128 renSort))),
 f129:=Eq.trans Tryz.func186 (congrArg some (Eq.refl (Body.n129 renSort))),
 f189:=Eq.trans Tryz.func192 (congrArg some (Eq.refl (Body.n189 renSort))),
 f215:=Eq.trans Tryz.func298 (congrArg some (Eq.refl (Body.n215 renSort))),
 f216:=Eq.trans Tryz.func283 (congrArg some (Eq.refl (Body.n216 renSort))),
 f257:=Eq.trans Tryz.func237 (congrArg some (Eq.refl (Body.n257 renSort))),
 f294:=Eq.trans Tryz.func277 (congrArg some (Eq.refl (Body.n294 renSort))),
 f295:=Eq.trans Tryz.func278 (congrArg some (Eq.refl (Body.n295 renSort))),
 f296:=Eq.trans Tryz.func279 (congrArg some (Eq.refl (Body.n296 renSort))),
 f297:=Eq.trans Tryz.func280 (congrArg some (Eq.refl (Body.n297 renSort))),
 f298:=Eq.trans Tryz.func281 (congrArg some (Eq.refl (Body.n298 renSort))),
 f299:=Eq.trans Tryz.func282 (congrArg some (Eq.refl (Body.n299 renSort))),
 f300:=Eq.trans Tryz.func284 (congrArg some (Eq.refl (Body.n300 renSort))),
 f301:=Eq.trans Tryz.func285 (congrArg some (Eq.refl (Body.n301 renSort))),
 f328:=Eq.trans Tryz.func293 (congrArg some (Eq.refl (Body.n328 renSort))),
 f329:=Eq.trans Tryz.func294 (congrArg some (Eq.refl (Body.n329 renSort))),
 f330:=Eq.trans Tryz.func295 (congrArg some (Eq.refl (Body.n330 renSort))),
 f331:=Eq.trans Tryz.func296 (congrArg some (Eq.refl (Body.n331 renSort))),
 f332:=Eq.trans Tryz.func297 (congrArg some (Eq.refl (Body.n332 renSort))),
 f343:=Eq.trans Tryz.func299 (congrArg some (Eq.refl (Body.n343 renSort))),t0:=Tryz.underlying0,
 a0:=Tryz.isAgg0,z0:=Tryz.sizeOf0,v0:=Tryz.zeroValue0,t3:=Tryz.underlying3,a3:=Tryz.isAgg3,
 z3:=Tryz.sizeOf3,v3:=Tryz.zeroValue3,t4:=Tryz.underlying4,a4:=Tryz.isAgg4,z4:=Tryz.sizeOf4,
 v4:=Tryz.zeroValue4,t5:=Tryz.underlying5,a5:=Tryz.isAgg5,z5:=Tryz.sizeOf5,v5:=Tryz.zeroValue5,
 t9:=Tryz.underlying9,a9:=Tryz.isAgg9,z9:=Tryz.sizeOf9,v9:=Tryz.zeroValue9,t28:=Tryz.underlying22,
 a28:=Tryz.isAgg22,z28:=Tryz.sizeOf22,v28:=Tryz.zeroValue22,t46:=Tryz.underlying230,a46:=Tryz.isAgg230,
 z46:=Tryz.sizeOf230,v46:=Tryz.zeroValue230,t51:=Tryz.underlying267,a51:=Tryz.isAgg267,
 z51:=Tryz.sizeOf267,v51:=Tryz.zeroValue267,t53:=Tryz.underlying145,a53:=Tryz.isAgg145,
 z53:=Tryz.sizeOf145,v53:=Tryz.zeroValue145,t131:=Tryz.underlying241,a131:=Tryz.isAgg241,
 z131:=Tryz.sizeOf241,v131:=Tryz.zeroValue241,t182:=Tryz.underlying261,a182:=Tryz.isAgg261,
 z182:=Tryz.sizeOf261,v182:=Tryz.zeroValue261,t183:=Tryz.underlying262,a183:=Tryz.isAgg262,
 z183:=Tryz.sizeOf262,v183:=Tryz.zeroValue262,t218:=Tryz.underlying272,a218:=Tryz.isAgg272,
 z218:=Tryz.sizeOf272,v218:=Tryz.zeroValue272,t222:=Tryz.underlying276,a222:=Tryz.isAgg276,
 z222:=Tryz.sizeOf276,v222:=Tryz.zeroValue276,t228:=Tryz.underlying278,a228:=Tryz.isAgg278,
 z228:=Tryz.sizeOf278,v228:=Tryz.zeroValue278,t229:=Tryz.underlying279,a229:=Tryz.isAgg279,
 z229:=Tryz.sizeOf279,v229:=Tryz.zeroValue279 }
open Go Go.Proofs Go.RowKit
def srt (xs:List Int):List Int:=xs.mergeSort fun x y=>decide (x ≤ y)
theorem srt_perm (xs:List Int):(srt xs).Perm xs:=List.mergeSort_perm xs _
theorem srt_length (xs:List Int):(srt xs).length = xs.length:=(srt_perm xs).length_eq
theorem srt_sorted (xs:List Int):(srt xs).Pairwise (· ≤ ·):=by
 have h:=List.pairwise_mergeSort (le:=fun x y:Int=>decide (x ≤ y)) (fun a b c h1 h2=>by simp at *;omega) (fun a b=>by simp;omega) xs
 exact h.imp fun h=>by simpa using h
theorem Sort_tr (v:Value) (xs:List Int) (hlen:xs.length < 4611686018427387904):Tr Tryz.prog 192 [v] [] [own 3 v (Is xs)] fun u D=>u = .tuple #[]∧D = [own 3 v (Is (srt xs))]:=by
 refine ⟨fun w hw=>?_,fun _ h=>nomatch h⟩
 have hO:OwnO w 3 v (Is xs):=hw.h (own 3 v (Is xs)) (by simp)
 have fin:∀ (w':World) (u:Value),Upd w w' v.ownBlock.toList→OwnO w' 3 v (Is (srt xs))→u = .tuple #[]→PR w [own 3 v (Is xs)] (fun u D=>u = .tuple #[]∧D = [own 3 v (Is (srt xs))]) u w':=by
  intro w' u hU hO' hu
  refine ⟨[own 3 v (Is (srt xs))],⟨hu,rfl⟩,Sat.one hO',Mv.upd hU (fun b hb=>.inl (wrs_one.2 (by show v.ownBlock = some b;simpa using hb))) (fun b hb=>.inl (wrs_one.2 (by have:=wrs_one.1 hb;exact this))) (fun b hb=>(by have:=rds_one.1 hb;exact this.elim)),fun c hc b hb=>?_⟩
  obtain rfl:c = own 3 v (Is (srt xs)):=by simpa using hc
  exact hb
 refine ⟨⟨_,Tryz.func192,rfl,rfl⟩,?_⟩
 have hl:=Is_len xs
 rcases hO with ⟨rfl,h0⟩ | ⟨b,o,cap,cur,rfl,hb,h1,h2,h3,h4⟩
 ·obtain rfl:xs = []:=by cases xs with | nil=>rfl | cons=>cases h0
  exact (calls_of_every_depth fun D=>AnyS.slices_Sort_int_none_in laysSort D none 0 w).mono fun e w' ⟨he,hw⟩=>by
   subst he hw
   exact ⟨_,rfl,fin _ _ (Upd.refl _ _) (by rw [show srt [] = [] by simp [srt]];exact .inl ⟨rfl,rfl⟩) rfl⟩
 ·have hcell:∀ j,j < xs.length→w.cell? ⟨b,o + j,none⟩ = some (I (xs.getD j 0))∧w.frozen? ⟨b,o + j,none⟩ = false:=fun j hj=>by
   have hg:=Is_get xs j hj
   rw [← h4,List.getElem?_take,if_pos (by omega),List.getElem?_drop] at hg
   exact ⟨blk_cell hb (by simpa using hg),frozen_of_row w b (o + j) cur _ hb⟩
  have hH:Sort.Holds (Value.int .i64) w b o xs.toArray:=fun j hj=>by
   have hj':j < xs.length:=by simpa using hj
   obtain ⟨h5,h6⟩:=hcell j hj'
   refine ⟨?_,h6⟩
   rw [h5]
   simp [List.getD_eq_getElem?_getD,hj']
  rw [hl] at fin ⊢
  refine (calls_of_every_depth fun D=>AnyS.slices_Sort_int_in laysSort D b o cap xs w hH (lt_of_heap hb) hlen).mono fun e w' ⟨he,n,os,hw⟩=>?_
  subst he
  refine ⟨_,rfl,fin _ _ ?_ ?_ rfl⟩
  ·subst hw
   refine ⟨rfl,rfl,rfl,by simp [Sort.ahead],fun k hk hn=>?_⟩
   have hkb:k ≠ b:=fun q=>hn (by simp [q,Value.ownBlock])
   rw [Sort.heap_grow_old _ _ (by simpa [Sort.ahead] using hk)]
   simp [Sort.putRow,Sort.mapBlock,Array.getElem?_modify,Ne.symm hkb,Sort.ahead]
  ·refine .inr ⟨b,o,cap,Sort.putCells (Value.int .i64) o (srt xs).toArray cur,by rw [Is_len,srt_length],?_,by rw [Is_len,srt_length];omega,h2,by simp [Sort.putCells];omega,?_⟩
   ·subst hw
    rw [Sort.heap_grow_old _ _ (by simpa [Sort.ahead] using lt_of_heap hb)]
    simp [Sort.putRow,Sort.mapBlock,Array.getElem?_modify,hb,Sort.ahead,Sort.onCells,srt]
   ·apply List.ext_getElem?
    intro j
    rw [List.getElem?_take,List.getElem?_drop]
    by_cases hj:j < xs.length
    ·have hj2:o + j < cur.size:=by omega
     have hj3:j < (srt xs).length:=by rw [srt_length];exact hj
     rw [Is_len,srt_length,if_pos hj]
     simp [Sort.putCells,hj,hj2,hj3,srt_length]
    ·rw [Is_len,srt_length,if_neg hj]
     symm
     rw [List.getElem?_eq_none]
     rw [Is_len,srt_length];omega
open Go Go.Proofs Go.RowKit
open Go.ChangeMaps (setBlock)
def lmp (b:Nat) (f:Int→Option Value):Ch where
 wr:=fun _=>False
 rd:=fun _=>False
 bd:=fun x=>x = b
 P:=fun w=>MapF w b f
 loc:=fun {w w'} h hb=>by obtain ⟨es,c,h1,h2⟩:=h.ex;exact ⟨es,c,(hb b (.inr (.inr rfl))).trans h1,h2⟩
 lt:=fun h hb=>by rcases hb with hb | hb | rfl;exact hb.elim;exact hb.elim;exact h.lt
def lme (b:Nat) (es:Array MapEntry) (c:Nat):Ch where
 wr:=fun _=>False
 rd:=fun _=>False
 bd:=fun x=>x = b
 P:=fun w=>w.heap[b]? = some (.map es c)
 loc:=fun h hb=>(hb b (.inr (.inr rfl))).trans h
 lt:=fun h hb=>by rcases hb with hb | hb | rfl;exact hb.elim;exact hb.elim;exact lt_of_heap h
def mit (r b since:Nat) (seen:Array Nat) (c:Nat):Ch where
 wr:=fun x=>x = r
 rd:=fun _=>False
 bd:=fun _=>False
 P:=fun w=>w.heap[r]? = some (.mapIter (some b) since seen c)
 loc:=fun h hb=>(hb r (.inl rfl)).trans h
 lt:=fun h hb=>by rcases hb with rfl | hb | hb;exact lt_of_heap h;exact hb.elim;exact hb.elim
instance (b:Nat) (f:Int→Option Value):Lent (lmp b f):=⟨fun _=>⟨fun h=>h,fun h=>h⟩⟩
instance (b:Nat) (es:Array MapEntry) (c:Nat):Lent (lme b es c):=⟨fun _=>⟨fun h=>h,fun h=>h⟩⟩
instance (r b since:Nat) (seen:Array Nat) (c:Nat):NoB (mit r b since seen c):=⟨fun _ h=>h⟩
theorem has_mow {F:List Ch} {T:TypeId} {b:Nat} {G:Int→Option Value} {g:Int→List Int} {o:Option Int} (h:mow T b G g o ∈ F):Has F (lmp b (ones G)):=
 ⟨fun w hw=>mow_map h w hw,fun _ h=>h,fun _ h=>h,fun x hx=>⟨_,h,by rcases hx with hx | hx | hx;exact hx.elim;exact hx.elim;exact .inl (.inl hx)⟩⟩
theorem has_lent {F:List Ch} {c:Ch} (h:c ∈ F) (hl:∀ b,¬ c.wr b∧¬ c.rd b):Has F c:=⟨fun _ hw=>hw.h _ h,fun b=>(hl b).1,fun b=>(hl b).2,fun _ hb=>⟨_,h,hb⟩⟩
theorem Fit.app (L J:List Ch):Fit (L ++ J) J L:=Im.perm List.perm_append_comm
theorem Fit.comm (L J:List Ch):Fit (J ++ L) (L ++ J) []:=by unfold Fit;rw [List.append_nil];exact Im.perm List.perm_append_comm
structure SeqC (P:Program) (f:FuncId) (cap:Array Value) (pre:List Ch) (N:Nat) (Done:List Int→Prop):Prop where
 run:∀ {α:Type} (l:Nat) (J:α→List Ch) (el:α→List Int) (a0:α),el a0 = []→(∀ a,∀ c ∈ J a,∀ b,¬ c.bd b) →
  (∀ a x,(el a).length < N→Ty P l [I x] [] (J a) fun ok B=>ok = true∧∃ a',el a' = el a ++ [x]∧B = J a') →
  Tr P f (yv l :: cap.toList) pre (J a0) fun _ B=>∃ a,Done (el a)∧B = J a
 done:∀ zs,Done zs→zs.length ≤ N
 lent:∀ c ∈ pre,∀ b,¬ c.wr b∧¬ c.rd b
section
variable {P:Program} {E:Env P} {n:Sh} {X:Cx} {s:List K} {fr:Fr} {A A' B F:List Ch} {ops:Array Oper} {rest:List Oper} {d:Nat} {ty:TypeId} {pos:String} {after:Array Edge} {v z:Value} {t T:TypeId} {x y:Operand} {c0:Code}
 {b r since:Nat} {f:Int→Option Value} {kt et:TypeId} {es:Array MapEntry} {clock:Nat} {seen:Array Nat}
theorem TC.entries (k:∀ es clock,Tells es clock f→TC E n X s c0 fr (lme b es clock :: A')) (hm:Tk (lmp b f) A A':=by exact tkA):TC E n X s c0 fr A:=⟨fun w hw=>by
 have h1:=hw.im hm
 have h2:MapF w b f:=h1.mem (List.Mem.head _)
 obtain ⟨es,clock,h3,h4⟩:=h2.ex
 refine (k es clock h4).run w ⟨?_,?_⟩
 ·obtain ⟨_,h5,h6⟩:=Sat.cons.1 h1.sat
  exact Sat.cons.2 ⟨h3,fun a ha=>⟨fun x hx=>hx.elim,fun x hx hf=>(h5 a ha).2 x hx hf⟩,h6⟩
 ·exact h1.mv.trans ⟨rfl,rfl,rfl,Nat.le_refl _,fun _ _ _=>rfl,fun x ⟨c,hc,hx⟩=>(by
   rcases List.mem_cons.1 hc with rfl | hc
   ·exact hx.elim
   ·exact .inl ⟨c,List.mem_cons_of_mem _ hc,hx⟩),fun x ⟨c,hc,hx⟩=>(by
   rcases List.mem_cons.1 hc with rfl | hc
   ·exact hx.elim
   ·exact .inr (.inl ⟨c,List.mem_cons_of_mem _ hc,hx⟩))⟩⟩
theorem rgm (k:∀ r,TO E n X s ops rest ((d,ptr r) :: fr) (mit r b clock #[] clock :: A)) (hx:ev fr x = some (mp b):=by rfl) (hm:lme b es clock ∈ A:=by exact memA) (ht:lk E.und t = some (.map kt et):=by rfl) (hd:Nat.blt d n.n = true:=by rfl) :
  TO E n X s ops (⟨some d,.range t x,ty,pos,after,none⟩ :: rest) fr A:=⟨fun w hw=>by
 have hb:w.heap[b]? = some (.map es clock):=hw.mem hm
 refine SO_v hd (w':=w.alloc (.mapIter (some b) clock #[] clock)) ⟨fun a ha _ _ _ _=>?_⟩ ((k w.heap.size).run _ (hw.new (Upd.alloc w _) (c:=mit w.heap.size b clock #[] clock) (heap_alloc_new w _) ?_ (fun _ h=>h)))
 ·simp only [execOp,ha.ev hx]
  simp [Instr.range,run_underlying (P:=P) (E.un ht),MapKept.run_getObj_map hb,newObj,Sem.run]
 ·rintro y (rfl | h | h)
  ·exact Nat.le_refl _
  ·exact h.elim
  ·exact h.elim⟩
theorem nxt (k0:(leftOf es seen).size = 0→TO E n X s ops rest ((d,.tuple #[.bool false]) :: fr) A) (k1:∀ e ∈ (leftOf es seen).toList,TO E n X s ops rest ((d,.tuple #[.bool true,e.key,e.val]) :: fr) (mit r b since (seen.push e.born) clock :: A'))
  (hold:∀ x ∈ es.toList,x.born < since) (hs:since ≤ clock) (hx:ev fr x = some (ptr r):=by rfl) (hm:Tk (mit r b since seen clock) A A':=by exact tkA) (hb:lme b es clock ∈ A:=by exact memA) (hd:Nat.blt d n.n = true:=by rfl) :
  TO E n X s ops (⟨some d,.next x false,ty,pos,after,none⟩ :: rest) fr A:=⟨fun w hw=>by
 have h0:w.heap[b]? = some (.map es clock):=hw.mem hb
 have h1:=hw.im hm
 have h2:w.heap[r]? = some (.mapIter (some b) since seen clock):=h1.mem (List.Mem.head _)
 rcases run_next_at (P:=P) w ty r b since clock seen es clock h2 h0 hold hs with ⟨h3,h4⟩ | ⟨e,he,w1,hw1,h4⟩
 ·refine SO_v hd (w':=w) ⟨fun a ha _ _ _ _=>?_⟩ ((k0 h3).run w hw)
  simp only [execOp,ha.ev hx]
  simp [h4]
 ·have hr1:w1.heap[r]? = some (.mapIter (some b) since seen clock):=by rcases hw1 with rfl | rfl <;> exact h2
  refine SO_v hd (w':=setBlock w1 r (.mapIter (some b) since (seen.push e.born) clock)) ⟨fun a ha _ _ _ _=>?_⟩ ((k1 e he).run _ ?_)
  ·simp only [execOp,ha.ev hx]
   simp [h4]
  ·have hU:Upd w (setBlock w1 r (.mapIter (some b) since (seen.push e.born) clock)) [r]:=by
    rcases hw1 with rfl | rfl
    ·exact Upd.setO w1 r _
    ·exact Upd.then (Upd.drew w) (Upd.setO w.drew r _) (by simp) (by simp)
   exact h1.set (d:=mit r b since (seen.push e.born) clock) hU (fun y hy=>.inl (List.mem_singleton.1 hy)) (setO_same hr1) (by rintro y (h | h | h);exact .inl h;exact h.elim;exact h.elim) (fun _ h=>h)⟩
theorem ent {e:MapEntry} (k:TO E n X s ops rest ((d,.tuple #[e.key,e.val]) :: fr) A) (he:e ∈ es.toList) (hn:(es.toList.map (·.born)).Nodup) (hx:ev fr x = some (ptr r):=by rfl) (hm:mit r b since (seen.push e.born) clock ∈ A:=by exact memA) (hb:lme b es clock ∈ A:=by exact memA) (hd:Nat.blt d n.n = true:=by rfl) :
  TO E n X s ops (⟨some d,.entry x,ty,pos,after,none⟩ :: rest) fr A:=TO.val (fun w h=>⟨fun a ha _ _ _ _=>by
 have h0:w.heap[b]? = some (.map es clock):=h.h _ hb
 have h2:w.heap[r]? = some (.mapIter (some b) since (seen.push e.born) clock):=h.h _ hm
 simp only [execOp,ha.ev hx]
 simp [run_entry_at (P:=P) w r b since seen es clock e h2 h0 he hn]⟩) k hd
end
attribute [local irreducible] Fit pt own ro vw mpc lpt vels rels mow lrc dfr
attribute [local irreducible] lmp lme mit
theorem AppendSeq_tr {f:FuncId} {cap:Array Value} {pre:List Ch} {N:Nat} {Done:List Int→Prop} (h:SeqC Tryz.prog f cap pre N Done) (hN:N ≤ 17592186044416) :
  Tr Tryz.prog 236 [nS,.func (.func f) #[] cap] pre [] fun v D=>∃ zs,Done zs∧D = [own 3 v (Is zs)]:=by
 refine Tr.enterM env _ Tryz.func236 (by kernel_rfl) rfl Tryz.ntmps236 rfl h.lent fun w0=>?_
 refine TC.im (own_nil 3 _) ?_
 repeat' first|refine bx1 fun b=>?_|(refine wo ?_;first|refine oa ?_)|refine sq ?_|refine rg ?_|refine xc ?_|refine nl ?_|refine bk ?_
 refine TC.range pre [pt b [nS] 22,own 3 nS (Is [])] (fun l rec Dm pend B'=>pend = none∧∃ v zs,Done zs∧B' = [dfr Dm,pt b [v] 22,own 3 v (Is zs)]) ?_ ?_ (hp:=fun c hc=>has_lent (by simp [hc]) (h.lent c hc))
 ·intro rec l Dm hr
  refine (h.run (α:=Value × List Int) l (fun a=>[lrc l rec .ready none,dfr Dm,pt b [a.1] 22,own 3 a.1 (Is a.2)]) (·.2) (nS,[]) rfl (fun a=>by (repeat (first | exact nb0 | refine nb1 ?_));first | done | fail) ?_).mono ?_
  ·rintro ⟨v,zs⟩ x hx
   dsimp only at hx ⊢
   refine Ty.intro env hr has00 fun w1=>?_
   refine TC.one (v:=v) (xs:=Is zs) fun hv=>?_
   repeat' first|refine xbeg ?_|refine slii [x] fun v1=>?_|(refine wo ?_;first|refine oa ?_|refine ld ?_)|refine rg ?_|refine nl ?_|refine bk ?_
   refine api (v:=v) (l:=zs) (news:=[x]) fun v2=>?_
   refine TO.one (v:=v2) (xs:=Is (zs ++ [x])) fun hv2=>?_
   repeat' first|(refine wo ?_;first|refine sr ?_)|refine nl ?_|refine xb ?_
   exact yn ⟨rfl,(v2,zs ++ [x]),rfl,rfl⟩
  ·rintro v B ⟨⟨v,zs⟩,hD,rfl⟩
   exact ⟨.ready,none,_,rfl,by decide,rfl,v,zs,hD,rfl⟩
 ·rintro l rec Dm pend B' ⟨rfl,v,zs,hD,rfl⟩
  show TX env _ _ _ _ _ _
  repeat' first|(refine wo ?_;first|refine oa ?_|refine ld ?_)|refine sq ?_|refine rg ?_|refine xc ?_|refine nl ?_|refine rt ?_|refine xb ?_
  exact m1 ⟨zs,hD,rfl⟩
theorem Sorted_tr {f:FuncId} {cap:Array Value} {pre:List Ch} {N:Nat} {Done:List Int→Prop} (h:SeqC Tryz.prog f cap pre N Done) (hN:N ≤ 17592186044416) :
  Tr Tryz.prog 134 [.func (.func f) #[] cap] pre [] fun v D=>∃ zs,Done zs∧D = [own 3 v (Is (srt zs))]:=by
 have hC:Tr Tryz.prog 191 [.func (.func f) #[] cap] pre [] fun v D=>∃ zs,Done zs∧D = [own 3 v (Is zs)]:=by
  refine Tr.enter env _ Tryz.func191 (by kernel_rfl) rfl Tryz.ntmps191 rfl h.lent fun w0=>?_
  repeat' first|(refine wo ?_;first|refine oa ?_)|refine sq ?_|refine rg ?_|refine xc ?_|refine nl ?_
  refine ca (AppendSeq_tr h hN) ?_ (hs:=Fit.nil) (hp:=fun c hc=>has_lent (by simp [hc]) (h.lent c hc))
  rintro v _ ⟨zs,hD,rfl⟩
  repeat' first|(refine wo ?_;first|refine oa ?_)|refine xc ?_|refine nl ?_|refine rt ?_
  exact r1 ⟨zs,hD,rfl⟩
 refine Tr.enter env _ Tryz.func134 (by kernel_rfl) rfl Tryz.ntmps134 rfl h.lent fun w0=>?_
 repeat' first|(refine wo ?_;first|refine oa ?_)|refine sq ?_|refine rg ?_|refine xc ?_|refine nl ?_
 refine ca hC ?_ (hs:=Fit.nil) (hp:=fun c hc=>has_lent (by simp [hc]) (h.lent c hc))
 rintro v _ ⟨zs,hD,rfl⟩
 have hl:=h.done zs hD
 repeat' first|(refine wo ?_;first|refine oa ?_)|refine sq ?_|refine rg ?_|refine xc ?_|refine nl ?_
 refine ca (Sort_tr v zs (by omega)) ?_
 rintro _ _ ⟨rfl,rfl⟩
 repeat' first|(refine wo ?_;first|refine oa ?_)|refine sq ?_|refine rg ?_|refine xc ?_|refine nl ?_|refine rt ?_
 exact r1 ⟨zs,hD,rfl⟩
end Go.Art
namespace Go.Art
open Go Go.Proofs Go.RowKit
abbrev c64 (n:Int):BitVec 64:=BitVec.ofInt 64 n
abbrev bshr (p:BitVec 64) (k:Int):BitVec 64:=p >>> k.toNat
def gold:BitVec 64:=c64 11400714819323198485
def stir1 (z:BitVec 64):BitVec 64:=(z ^^^ bshr z 30) * c64 13787848793156543929
def stir2 (z:BitVec 64):BitVec 64:=(z ^^^ bshr z 27) * c64 10723151780598845931
def stir3 (z:BitVec 64):BitVec 64:=z ^^^ bshr z 31
def stir (x:BitVec 64):BitVec 64:=stir3 (stir2 (stir1 (x + gold)))
def lim (n:Nat):Nat:=18446744073709551615 - 18446744073709551616 % n
def ginv:BitVec 64:=c64 17428512612931826493
def farG (g gi st:BitVec 64):Nat:=((-g - st) * gi).toNat
def far (st:BitVec 64):Nat:=farG gold ginv st
def saccN (n:Nat):Nat→BitVec 64→BitVec 64
 | 0,st=>st
 | f + 1,st=>if (stir st).toNat ≤ lim n then st else saccN n f (st + gold)
def sacc (n:Nat) (st:BitVec 64):BitVec 64:=saccN n (far st + 1) st
def sdraw (n:Nat) (st:BitVec 64):Nat × BitVec 64:=((stir (sacc n st)).toNat % n,sacc n st + gold)
def seedOf (seed block id:BitVec 64):BitVec 64:=stir (stir (stir seed + block) + id)
section
variable {P:Program} {E:Env P} {n:Sh} {X:Cx} {s:List K} {fr:Fr} {A A' G:List Ch} {ops:Array Oper} {rest:List Oper} {d:Nat} {ty t t':TypeId} {pos:String} {after:Array Edge} {x y:Operand} {p q:BitVec 64}
theorem onep_nil:∀ p ∈ ([]:List (Nat × Value)),p.2.oneCell' = true:=fun _ h=>nomatch h
theorem onep_cons {p0:Nat × Value} {l:List (Nat × Value)} (h:p0.2.oneCell' = true) (k:∀ p ∈ l,p.2.oneCell' = true):∀ p ∈ p0 :: l,p.2.oneCell' = true:=fun x hx=>by
 rcases List.mem_cons.1 hx with rfl | hx
 ·exact h
 ·exact k x hx
theorem bdz {sz by_:Nat} {cs:List Value} {fl:List Field} {zs:List Value} {pl:List (Nat × Nat)} {parts:List (Nat × Operand)} {ps:List (Nat × Value)} (k:TO E n X s ops rest ((d,.agg cs.toArray) :: fr) A) (hv:evps fr parts = some ps:=by rfl)
  (h1:∀ p ∈ ps,p.2.oneCell' = true:=by (repeat (first | exact onep_nil | refine onep_cons (by first | rfl | assumption) ?_));first | done | fail) (ht:lk E.und t = some (.struct fl.toArray):=by rfl) (he:lk E.inf t = some (.agg zs.toArray,sz,by_):=by rfl)
  (hpl:places E.inf fl = some pl:=by rfl) (hs:setParts1 pl zs ps = some cs:=by rfl) (hd:Nat.blt d n.n = true:=by rfl):TO E n X s ops (⟨some d,.build t parts.toArray,ty,pos,after,none⟩ :: rest) fr A:=bdc h1 k hv ht he hpl hs hd
end
attribute [local irreducible] Fit pt own ro vw mpc lpt vels rels mow lrc dfr
abbrev TLo:TypeId:=183
def ldraw (n:Int) (st:BitVec 64) (used:Int):(Int × Int) × (BitVec 64 × Int):=if 1 ≤ n∧n ≤ 1099511627776 then ((((sdraw n.toNat st).1:Int),0),((sdraw n.toNat st).2,used + 1)) else ((0,3),(st,used))
end Go.Art
namespace Go.Art
open Go Go.Proofs Go.RowKit
def upto (k:Nat):List Int:=(List.range k).map (fun i:Nat=>(i:Int))
def swp (l:List Int) (i j:Nat):List Int:=(l.set j (l.getD i 0)).set i (l.getD j 0)
def ordL (k:Nat):Nat→Nat→List Int→BitVec 64→List Int × BitVec 64
 | 0,_,_,st=>([],st)
 | m + 1,i,l,st=>(l.getD (i + (sdraw (k - i) st).1) 0 :: (ordL k m (i + 1) (swp l i (i + (sdraw (k - i) st).1)) (sdraw (k - i) st).2).1,(ordL k m (i + 1) (swp l i (i + (sdraw (k - i) st).1)) (sdraw (k - i) st).2).2)
def Sized (k d:Int):Prop:=1 ≤ k∧k ≤ 65536∧1 ≤ d∧d ≤ k
instance (k d:Int):Decidable (Sized k d):=by unfold Sized;infer_instance
def ordR (k d:Int) (st:BitVec 64):(List Int × Int) × (BitVec 64 × Int):=if Sized k d then (((ordL k.toNat d.toNat 0 (upto k.toNat) st).1,0),((ordL k.toNat d.toNat 0 (upto k.toNat) st).2,d)) else (([],3),(st,0))
def mps (b:Nat) (f:Int→Option Value) (k:Int) (st:Nat):Ch where
 wr:=fun x=>x = b
 rd:=fun _=>False
 bd:=fun _=>False
 P:=fun w=>MapS w b f k st
 loc:=fun {w w'} h hb=>by obtain ⟨es,c,h1,h2⟩:=h.ex;exact ⟨es,c,(hb b (.inl rfl)).trans h1,h2⟩
 lt:=fun h hb=>by rcases hb with rfl | hb | hb;(obtain ⟨es,c,h1,h2⟩:=h.ex;exact lt_of_heap h1);exact hb.elim;exact hb.elim
section
variable {P:Program} {E:Env P} {n:Sh} {X:Cx} {s:List K} {fr:Fr} {A A':List Ch} {ops:Array Oper} {rest:List Oper} {d:Nat} {ty t kt et:TypeId} {pos:String} {after:Array Edge} {x y u:Operand} {b sz by_ st:Nat} {f:Int→Option Value} {k:Int} {v z:Value}
end
attribute [local irreducible] Fit pt own ro vw mpc lpt vels rels mow lrc dfr
attribute [local irreducible] mps lmp lme mit
def PlcF (f:Int→Option Value) (g:Int→Int):Prop:=∀ i,(f i = none∧g i = i)∨f i = some (I (g i))
def upg (g:Int→Int) (k v:Int):Int→Int:=fun k'=>if k' = k then v else g k'
def RelG (k:Nat) (l:List Int) (g:Int→Int):Prop:=l.length = k∧∀ t:Nat,t < k→g t = l.getD t 0
def pickR (k d:Int) (st:BitVec 64):List Int × Int:=(srt (ordR k d st).1.1,(ordR k d st).1.2)
end Go.Art
namespace Go.Art
open Go Go.Proofs Go.RowKit
theorem TC.slf {P:Program} {E:Env P} {n:Sh} {X:Cx} {s:List K} {fr:Fr} {A:List Ch} {c0:Code} {v:Value} {xs:List Value} (k:∀ a c,v = .slice a xs.length c→(a = none→xs = [])→TC E n X s c0 fr A) (hh:Has A (vw v xs):=by exact hasA):TC E n X s c0 fr A:=by
 by_cases h:∃ a c,v = .slice a xs.length c∧(a = none→xs = [])
 ·obtain ⟨a,c,h1,h2⟩:=h;exact k a c h1 h2
 ·refine TC.fact (p:=False) (fun w hw=>h ?_) (fun h=>h.elim)
  obtain ⟨a,c,h1,h2,h3,h4⟩:=hh.P w hw
  refine ⟨a,c,h1,fun e=>?_⟩
  cases xs with
  | nil=>rfl
  | cons x r=>obtain ⟨y,hy,_⟩:=h4 0 _ rfl;rw [e] at hy;cases hy
theorem vw_sl {w:World} {v:Value} {xs:List Value} (h:(vw v xs).P w):Sl w v xs:=h
theorem own_O {w:World} {e:TypeId} {v:Value} {xs:List Value} (h:(own e v xs).P w):OwnO w e v xs:=h
theorem TX.one {P:Program} {E:Env P} {n:Sh} {X:Cx} {s:List K} {fr:Fr} {A:List Ch} {e:Exit} {v:Value} {xs:List Value} (k:v.oneCell' = true→TX E n X s e fr A) (hh:Has A (vw v xs):=by exact hasA):TX E n X s e fr A:=
 TX.fact (fun w hw=>by obtain ⟨a,c,h,_⟩:=has_sl hw hh;rw [h];rfl) k
open Go Go.Proofs Go.RowKit
theorem TrB {P:Program} {f:FuncId} {args:List Value} {pre C:List Ch} {R:Value→List Ch→Prop} (h:Tr P f args pre C R):Tr P f args pre [bnd C] fun v D=>∃ D',R v D'∧D = [bnd D']:=by
 refine ⟨fun w hw=>?_,h.lent⟩
 have hw':Sat (pre ++ C) w:=by
  have h1:Sat (bnd C :: pre) w:=hw.perm (List.perm_append_comm (l₁:=pre) (l₂:=[bnd C]))
  exact (bnd_sat.1 h1).perm List.perm_append_comm
 refine (h.run w hw').mono fun v w' ⟨B,hR,hS,hM,hB⟩=>⟨[bnd B],⟨B,hR,rfl⟩,?_,?_,?_⟩
 ·exact bnd_sat.2 (by rw [List.append_nil];exact hS)
 ·have e1:∀ (C:List Ch) (b:Nat),wrs [bnd C] b ↔ wrs C b:=fun C b=>by have:=bnd_wrs (C:=C) (F:=[]) (b:=b);rwa [List.append_nil] at this
  have e2:∀ (C:List Ch) (b:Nat),rds [bnd C] b ↔ rds C b:=fun C b=>by have:=bnd_rds (C:=C) (F:=[]) (b:=b);rwa [List.append_nil] at this
  exact ⟨hM.os,hM.tape,hM.output,hM.size,fun k hk hn=>hM.block k hk fun h=>hn ((e1 C k).2 h),fun b hb=>(hM.wr b ((e1 B b).1 hb)).imp_left (e1 C b).2,
   fun b hb=>(hM.rd b ((e2 B b).1 hb)).imp (e1 C b).2 (Or.imp_left (e2 C b).2)⟩
 ·intro c hc b hb
  obtain rfl:=List.mem_singleton.1 hc
  obtain ⟨x,hx,hb⟩:=hb
  exact hB x hx b hb
abbrev Lw:=BitVec 64 ⊕ (List Int × Bool)
def rowOk (n:Int) (l:List Int) (br:Bool):Prop:=br = false∧0 < l.length∧0 ≤ l.getD 0 0∧l.getD 0 0 < n
instance (n:Int) (l:List Int) (br:Bool):Decidable (rowOk n l br):=by unfold rowOk;infer_instance
def drw (n:Int):Lw→(Int × Int) × Lw
 | .inl st=>if 1 ≤ n∧n ≤ 1099511627776 then ((((sdraw n.toNat st).1:Int),0),.inl (sdraw n.toNat st).2) else ((0,3),.inl st)
 | .inr (l,br)=>if 1 ≤ n∧n ≤ 1099511627776 then (if rowOk n l br then ((l.getD 0 0,0),.inr (l.drop 1,false)) else ((0,12),.inr (l,true))) else ((0,3),.inr (l,br))
def dru (n:Int) (x:Lw):Int:=if (drw n x).1.2 = 0 then 1 else 0
abbrev TLr:TypeId:=179
abbrev TpR:TypeId:=177
abbrev TLI:TypeId:=3
def okL (x:Lw):Prop:=x.isRight = true
def lotC (b r:Nat) (sv:Value) (x:Lw) (used:Int):List Ch:=
 match x with
 | .inl st=>[]
 | .inr (l,br)=>[pt b [.iface TpR (ptr r),I used,.bool br] TLo,pt r [sv] TLr,own TLI sv (Is l)]
abbrev lot (b r:Nat) (sv:Value) (x:Lw) (used:Int):Ch:=bnd (lotC b r sv x used)
theorem lotC_nb (b r:Nat) (sv:Value) (x:Lw) (used:Int):∀ c ∈ lotC b r sv x used,∀ b,¬ c.bd b:=by
 cases x with
 | inl st=>unfold lotC;(repeat (first | exact nb0 | refine nb1 ?_))
 | inr p=>unfold lotC;(repeat (first | exact nb0 | refine nb1 ?_))
instance (b r:Nat) (sv:Value) (x:Lw) (used:Int):NoB (lot b r sv x used):=⟨fun b h=>by obtain ⟨c,hc,h1⟩:=h;exact lotC_nb _ _ _ _ _ c hc b h1⟩
theorem fit_bnd {A C G:List Ch} (h:Fit A C G):Fit A [bnd C] G:=Im.trans h (im_bnd C G)
attribute [local irreducible] Fit pt own ro vw mpc lpt vels rels mow lrc dfr
attribute [local irreducible] lmp lme mit velg relg
theorem ICloneN_tr (v:Value) (l:List Int) (hl:l.length ≤ 17592186044416):Tr Tryz.prog 127 [v] [vw v (Is l)] [] fun u D=>u.oneCell' = true∧D = [own TLI u (Is l)]:=by
 refine Tr.enter env _ Tryz.func127 (by kernel_rfl) rfl Tryz.ntmps127 rfl (by repeat (first | exact has00 | refine has01 ?_)) fun w0=>?_
 refine TC.slf (v:=v) (xs:=Is l) fun a c hv hn=>?_
 rw [Is_len] at hv
 cases a with
 | none=>
  have hl0:l = []:=by have:=hn rfl;simpa using this
  subst hl0 hv
  repeat' first|(refine wo ?_;first|(refine ao ?_;first|refine isl ?_)|refine oa ?_)|(refine gc ?_;first|refine ct ?_)|refine sq ?_|refine rg ?_|refine xc ?_|refine nl ?_|refine rt ?_
  refine TX.im (own_nil TLI _) ?_
  exact r1 ⟨rfl,rfl⟩
 | some a=>
  subst hv
  repeat' first|(refine sl0 fun o=>?_)|(refine api (l:=[]) (news:=l) (fun o=>?_);refine TO.one (v:=o) (xs:=Is ([] ++ l)) fun ho=>?_)|(refine wo ?_;first|(refine ao ?_;first|refine isl ?_)|refine oa ?_)|(refine gc ?_;first|refine cf ?_)|refine sq ?_|refine rg ?_|refine xc ?_|refine nl ?_|refine sk ?_|refine rt ?_
  exact r1 ⟨ho,rfl⟩
end Go.Art
namespace Go.Art
open Go Go.Proofs Go.RowKit
def ordW (k:Nat):Nat→Nat→List Int→Lw→(List Int × Int) × Lw
 | 0,_,_,x=>(([],0),x)
 | m + 1,i,l,x=>
  if (drw ((k:Int) - i) x).1.2 = 0 then
   ((l.getD (i + (drw ((k:Int) - i) x).1.1.toNat) 0 :: (ordW k m (i + 1) (swp l i (i + (drw ((k:Int) - i) x).1.1.toNat)) (drw ((k:Int) - i) x).2).1.1,
    (ordW k m (i + 1) (swp l i (i + (drw ((k:Int) - i) x).1.1.toNat)) (drw ((k:Int) - i) x).2).1.2),(ordW k m (i + 1) (swp l i (i + (drw ((k:Int) - i) x).1.1.toNat)) (drw ((k:Int) - i) x).2).2)
  else (([],(drw ((k:Int) - i) x).1.2),(drw ((k:Int) - i) x).2)
def ordO (k d:Int) (x:Lw):(List Int × Int) × (Lw × Int):=
 if Sized k d then ((if (ordW k.toNat d.toNat 0 (upto k.toNat) x).1.2 = 0 then (ordW k.toNat d.toNat 0 (upto k.toNat) x).1.1 else [],(ordW k.toNat d.toNat 0 (upto k.toNat) x).1.2),((ordW k.toNat d.toNat 0 (upto k.toNat) x).2,((ordW k.toNat d.toNat 0 (upto k.toNat) x).1.1.length:Int)))
 else (([],3),(x,0))
def pickO (k d:Int) (x:Lw):List Int × Int:=(srt (ordO k d x).1.1,(ordO k d x).1.2)
structure OwG where
 i:Nat
 o:Value
 f:Int→Option Value
 l:List Int
 outs:List Int
 sv:Value
 x:Lw
attribute [local irreducible] Fit pt own ro vw mpc lpt vels rels mow lrc dfr
attribute [local irreducible] mps lmp lme mit
end Go.Art
namespace Go.Art
open Go Go.Proofs Go.RowKit
attribute [local irreducible] Fit pt own ro vw mpc lpt vels rels mow lrc dfr
attribute [local irreducible] lmp lme mit
def wOk (w:Int):Bool:=decide (0 ≤ w∧w ≤ 16777215)
def wPos (w:Int):Bool:=decide (0 < w)
def solE (t:List Int) (k:Int):Int:=if k < 1∨65536 < k∨t.length < 1∨k < t.length then 13 else if t.all wOk && t.any wPos then 0 else 13
theorem solE_zero {t:List Int} {k:Int} (h:solE t k = 0):(1 ≤ k∧k ≤ 65536)∧(1 ≤ t.length∧t.length ≤ k)∧(∀ w ∈ t,0 ≤ w∧w ≤ 16777215)∧∃ w ∈ t,0 < w:=by
 unfold solE at h
 split at h
 ·cases h
 ·split at h
  ·rename_i h1 h2
   rw [Bool.and_eq_true,List.all_eq_true,List.any_eq_true] at h2
   refine ⟨by omega,by omega,fun w hw=>by simpa [wOk] using h2.1 w hw,?_⟩
   obtain ⟨w,hw,hp⟩:=h2.2
   exact ⟨w,hw,by simpa [wPos] using hp⟩
  ·cases h
theorem solE_cases (t:List Int) (k:Int):solE t k = 0∨solE t k = 13:=by unfold solE;split;exact .inr rfl;split;exact .inl rfl;exact .inr rfl
theorem take_all {p:Int→Bool} {t:List Int} {i:Nat} (hi:i < t.length):(t.take (i + 1)).all p = ((t.take i).all p && p (t.getD i 0)):=by rw [take_succ' hi 0,List.all_append];simp
theorem take_any {p:Int→Bool} {t:List Int} {i:Nat} (hi:i < t.length):(t.take (i + 1)).any p = ((t.take i).any p || p (t.getD i 0)):=by rw [take_succ' hi 0,List.any_append];simp
theorem all_of_take {p:Int→Bool} {t:List Int} {i:Nat} (hi:i < t.length) (h:p (t.getD i 0) = false):t.all p = false:=by
 cases hc:t.all p with
 | false=>rfl
 | true=>rw [List.all_eq_true] at hc;rw [hc _ (mem_getD.2 ⟨i,hi,rfl⟩)] at h;cases h
theorem SoCheck_tr (s:Value) (t:List Int) (k:Int):Tr Tryz.prog 53 [s,I k] [vw s (Is t)] [] fun v D=>v = I (solE t k)∧D = []:=by
 refine Tr.enter env _ Tryz.func53 (by kernel_rfl) rfl Tryz.ntmps53 rfl (by repeat (first | exact has00 | refine has01 ?_)) fun w0=>?_
 refine TC.leni (l:=t) fun htl=>?_
 repeat' first|(refine wo ?_;first|(refine ao ?_;first|refine oa ?_)|refine oa ?_|refine lnm ?_|refine gy ?_|refine gn ?_|(refine gsi (fun hB=>?_) (fun hB=>?_) <;> try (exfalso;omega)))|(refine gc ?_;first|refine ct ?_|(refine ci (fun hB=>?_) (fun hB=>?_) <;> try (exfalso;omega)))|refine sq ?_|refine rg ?_|refine xc ?_|refine nl ?_|refine sk ?_|refine bk ?_|refine rt ?_
 ·exact r1 ⟨by rw [solE,if_pos (by omega)],rfl⟩
 ·exact r1 ⟨by rw [solE,if_pos (by omega)],rfl⟩
 ·exact r1 ⟨by rw [solE,if_pos (by omega)],rfl⟩
 ·exact r1 ⟨by rw [solE,if_pos (by omega)],rfl⟩
 rw [show solE t k = if t.all wOk && t.any wPos then 0 else 13 by rw [solE,if_neg (by omega)]]
 refine TC.loop (ι:=Nat × Bool) (fun i=>[(27,I i.1),(5,.bool i.2)]) (fun _=>[]) (fun i=>i.1 ≤ t.length∧(t.take i.1).all wOk = true∧i.2 = (t.take i.1).any wPos) (fun i=>t.length - i.1) (0,false) [25,26] ⟨by simp,rfl,rfl⟩ ?_
 rintro ⟨i,so⟩ ⟨h1,h2,h3⟩
 dsimp only at h1 h2 h3 ⊢
 by_cases hi:i < t.length
 ·have ha:=take_all (p:=wOk) hi
  have hb:=take_any (p:=wPos) hi
  have hc:=all_of_take (p:=wOk) hi
  generalize hy:t.getD i 0 = y at *
  repeat' first|refine lie hy ?_|(refine wo ?_;first|(refine ao ?_;first|refine aw ?_|refine oa ?_)|refine oa ?_|refine ixmn ?_|refine gy ?_|refine gn ?_|(refine gsi (fun hB=>?_) (fun hB=>?_) <;> try (exfalso;omega))|(refine gs (fun hB=>?_) (fun hB=>?_) <;> try (exfalso;omega)))|(refine gc ?_;first|refine ct ?_|(refine ci (fun hB=>?_) (fun hB=>?_) <;> try (exfalso;omega)))|refine sq ?_|refine rg ?_|refine xc ?_|refine nl ?_|refine sk ?_|refine bk ?_|refine rt ?_|refine xb ?_
  ·refine r1 ⟨?_,rfl⟩
   rw [hc (by simp [wOk];omega)];rfl
  ·refine r1 ⟨?_,rfl⟩
   rw [hc (by simp [wOk];omega)];rfl
  ·have hw:wOk y = true:=by simp [wOk];omega
   exact lp (i + 1,true) ⟨by dsimp only;omega,by dsimp only;rw [ha,h2,hw];rfl,by dsimp only;rw [hb,← h3,hB];rfl⟩
  ·have hw:wOk y = true:=by simp [wOk];omega
   exact lp (i + 1,decide (0 < y)) ⟨by dsimp only;omega,by dsimp only;rw [ha,h2,hw];rfl,by dsimp only;rw [hb,← h3,hB];rfl⟩
 ·obtain rfl:i = t.length:=by omega
  rw [List.take_length] at h2 h3
  repeat' first|(refine wo ?_;first|(refine ao ?_;first|refine oa ?_)|refine oa ?_)|(refine gc ?_;first|(refine ci (fun hB=>?_) (fun hB=>?_) <;> try (exfalso;omega))|(refine cb (fun hB=>?_) (fun hB=>?_) <;> try (exfalso;omega)))|refine sq ?_|refine rg ?_|refine xc ?_|refine nl ?_|refine sk ?_|refine xe ?_|refine rt ?_
  ·refine r1 ⟨?_,rfl⟩
   rw [h2,← h3,show so = false by simpa using hB];rfl
  ·refine r1 ⟨?_,rfl⟩
   rw [h2,← h3,show so = true by simpa using hB];rfl
def total (t:List Int):Int:=t.sum
theorem take_sum {t:List Int} {i:Nat} (hi:i < t.length):(t.take (i + 1)).sum = (t.take i).sum + t.getD i 0:=by rw [take_succ' hi 0,List.sum_append];simp
theorem sum_bound {t:List Int} (h:∀ w ∈ t,0 ≤ w∧w ≤ 16777215):0 ≤ t.sum∧t.sum ≤ 16777215 * t.length:=by
 induction t with
 | nil=>simp
 | cons a r ih=>
  have h1:=h a (by simp)
  have h2:=ih fun w hw=>h w (by simp [hw])
  simp only [List.sum_cons,List.length_cons]
  omega
end Go.Art
namespace Go.Art
open Go Go.RowKit
section
variable {F:Fence} {m:Nat} {P:Program} {md:Region.Mode} {ops:Array Oper} {Q:Exit→Act→World→Prop} {S:World→Prop}
def YSg (P:Program) (ops:Array Oper) (S:World→Prop) (o:Oper) (v:Value) (a:Act):Prop:=
 (Region.wanted o (yielded ops a.tmps) = true∧∀ w,S w→(execOp a.eval o).run P w = .ok (.value v) w∧o.about P w a.eval = none)∨(Region.wanted o (yielded ops a.tmps) = false∧v = undef∧∀ w,S w→o.about P w a.eval = none)
end
section
variable {P:Program} {E:Env P} {n:Sh} {X:Cx} {s:List K} {fr:Fr} {A:List Ch} {ops:Array Oper} {d j dj:Nat} {o:Op} {ty:TypeId} {pos:String} {after:Array Edge} {v:Value} {fuel:Nat} {listed:Array Bool} {S:World→Prop} {b b':Bool}
end
end Go.Art
namespace Go.Art
open Go Go.Proofs Go.RowKit
attribute [local irreducible] Fit pt own ro vw mpc lpt vels rels mow lrc dfr
attribute [local irreducible] lmp lme mit velg relg
abbrev TAl:TypeId:=116
def farB (m x:Int):Bool:=decide (x < 0∨m < x)
def alE (tot:Int) (cut oth:List Int):Int:=if tot < 1∨1099511627776 < tot∨cut.length < 1∨65536 < cut.length∨oth.length ≠ cut.length then 6 else if cut.any (farB tot) || oth.any (farB (cut.length - 1)) then 6 else 0
def alPick (tot:Int) (cut oth:List Int) (c l:Int):Int:=if l < cut.getD c.toNat 0 then c else oth.getD c.toNat 0
end Go.Art
namespace Go.Art
open Go Go.Proofs Go.RowKit
def rwE (tot:Int) (cut oth:List Int) (k:Int):Int:=if alE tot cut oth = 0 then (if k < 1∨65536 < k∨k < cut.length then 3 else 0) else 6
def plcW (tot:Int) (cut oth:List Int) (x:Lw):(Int × Int) × (Lw × Int):=
 if (drw cut.length x).1.2 = 0 then
  (if (drw tot (drw cut.length x).2).1.2 = 0 then ((alPick tot cut oth (drw cut.length x).1.1 (drw tot (drw cut.length x).2).1.1,0),((drw tot (drw cut.length x).2).2,2))
   else ((0,(drw tot (drw cut.length x).2).1.2),((drw tot (drw cut.length x).2).2,1)))
 else ((0,(drw cut.length x).1.2),((drw cut.length x).2,0))
def setW (tot:Int) (cut oth:List Int) (k:Int) (x:Lw):(List Int × Int) × (Lw × Int):=
 if rwE tot cut oth k = 0 then
  (if (plcW tot cut oth x).1.2 = 0 then (pickO k ((plcW tot cut oth x).1.1 + 1) (plcW tot cut oth x).2.1,((ordO k ((plcW tot cut oth x).1.1 + 1) (plcW tot cut oth x).2.1).2.1,(plcW tot cut oth x).2.2 + (ordO k ((plcW tot cut oth x).1.1 + 1) (plcW tot cut oth x).2.1).2.2))
   else (([],(plcW tot cut oth x).1.2),(plcW tot cut oth x).2))
 else (([],rwE tot cut oth k),(x,0))
attribute [local irreducible] Fit pt own ro vw mpc lpt vels rels mow lrc dfr
attribute [local irreducible] lmp lme mit velg relg
end Go.Art
namespace Go.Art
open Go Go.Proofs Go.RowKit
section
variable {P:Program} {E:Env P} {n:Sh} {X:Cx} {s:List K} {fr:Fr} {A:List Ch} {ops:Array Oper} {fuel:Nat} {listed:Array Bool} {S:World→Prop} {a b:Code}
theorem sq_cutX {ι:Type} (p:ι→Prop) (fr':ι→Fr) (B:ι→List Ch) (hb:∀ i,p i→TC E n X s b (fr' i) (B i)) (ha:(∀ i,p i→∀ fr2 A2,Sub (fr' i) fr2→∀ {G},Fit A2 (B i) G→TC E n X s b fr2 A2)→TC E n X (.code b :: s) a fr A):TC E n X s (.seq a b) fr A:=
 sq (ha fun i hp fr2 A2 hs _ hf=>⟨fun w hw=>SC_sub (fr' i) hs ((hb i hp).run w ((hw.im hf).im (Im.drop _ _)))⟩)
theorem t3 (i j k:Nat) {oi oj ok:Oper} (h1:TO E n ⟨RQ P ops n.r (NP P n.r X.Q s) S fuel (listed.setIfInBounds i true),X.w0,X.A0⟩ [] ops [oi] fr A) (h2:TO E n ⟨RQ P ops n.r (NP P n.r X.Q s) S fuel (listed.setIfInBounds j true),X.w0,X.A0⟩ [] ops [oj] fr A)
  (h3:TO E n ⟨RQ P ops n.r (NP P n.r X.Q s) S fuel (listed.setIfInBounds k true),X.w0,X.A0⟩ [] ops [ok] fr A) (hi:ops[i]? = some oi:=by rfl) (hj:ops[j]? = some oj:=by rfl) (hk:ops[k]? = some ok:=by rfl)
  (hr:Region.ready .any ops listed = [i,j,k]:=by kernel_rfl):TS E n X s S ops (fuel + 1) listed fr A:=
 tn [i,j,k] hr (by simp) fun m hm=>by
  simp only [List.mem_cons,List.not_mem_nil,or_false] at hm
  rcases hm with rfl | rfl | rfl
  ·exact ⟨oi,hi,h1⟩
  ·exact ⟨oj,hj,h2⟩
  ·exact ⟨ok,hk,h3⟩
theorem tkw (i:Nat) (c:Int) {m:Int} {d:Nat} {o:Op} {ty:TypeId} {pos:String} {after:Array Edge} (k:TS E n X s S ops fuel (listed.setIfInBounds i true) ((d,I c) :: fr) A) (hi:ops[i]? = some ⟨some d,o,ty,pos,after,none⟩:=by rfl) (hv:evOp E fr o = some (.int .i64 (IntKind.i64.wrap m)):=by rfl) (he:m = c:=by first | rfl | assumption | omega) (hb : -9223372036854775808 ≤ c∧c ≤ 9223372036854775807:=by omega) (hs:Region.noSelect ops = true:=by kernel_rfl) (hf:Region.free .any ops listed i = true:=by kernel_rfl)
  (hr:(Region.ready .any ops listed).contains i = true:=by kernel_rfl) (hrd:n.r = none:=by rfl) (hd:Nat.blt d n.n = true:=by rfl) (hab:∀ w ρ,(⟨some d,o,ty,pos,after,none⟩ : Oper).about P w ρ = none:=by exact fun _ _=>rfl):TS E n X s S ops (fuel + 1) listed fr A:=
 tk i (fun _ _=>by subst he;exact R_wrap (R_auto hv) hb) k hi hs hf hr hrd hd hab
theorem res_at {fn:Func} {w:World} {a:Act} (ha:Holds n a fr) {t u:Nat} {ty T:TypeId} {dt:TypeDesc} {z:Value} {sz by_ b:Nat} {cs vs:List Value} {v2:Value} (hr:fn.results = #[.cell t ty,.tmp u]) (ht:lk E.und ty = some dt) (hg:aggB dt = true) (hi:lk E.inf ty = some (z,sz,by_)) (h1:get fr t = some (ptr b))
  (hb:w.heap[b]? = some (.cells cs.toArray T (0,0))) (hv:cs.take sz = vs) (hl:vs.length = sz) (h2:get fr u = some v2):(results fn a.tmps).run P w = .ok (.tuple #[.agg vs.toArray,v2]) w:=by
 obtain ⟨inf,g1,_,g2,_⟩:=E.info hi
 have h3:=run_loadCells_list (P:=P) w ⟨b,0,none⟩ vs (fun m u hm=>by
  rw [Addr.add_lit]
  refine blk_cell hb ?_
  rw [← hv,List.getElem?_take] at hm
  split at hm
  ·simpa using hm
  ·cases hm)
 rw [hl] at h3
 have e1:a.tmps[t]?.getD undef = ptr b:=by have:=ha.slot t _ h1;simpa using this
 have e2:a.tmps[u]?.getD undef = v2:=by have:=ha.slot u _ h2;simpa using this
 simp only [results,hr]
 simp [e1,e2,asAddr,loadVar,aggB_t (w:=w) ht hg,sizeOf,typeInfo,g1,g2,h3]
theorem rca {w0:World} {A0 D G:List Ch} {R':Value→List Ch→Prop} {fn:Func} {t u nn:Nat} {ty T:TypeId} {dt:TypeDesc} {z:Value} {sz by_ b:Nat} {cs vs:List Value} {v2:Value} (h:R' (.tuple #[.agg vs.toArray,v2]) D) (hr:fn.results = #[.cell t ty,.tmp u]:=by rfl) (ht:lk E.und ty = some dt:=by rfl) (hg:aggB dt = true:=by rfl) (hi:lk E.inf ty = some (z,sz,by_):=by rfl)
  (hv:get fr t = some (ptr b):=by rfl) (hv2:get fr u = some v2:=by rfl) (hm:pt b cs T ∈ A:=by exact memA) (hcs:cs.take sz = vs:=by rfl) (hl:vs.length = sz:=by rfl) (hf:Fit A D G:=by exact fitA) (nb:∀ c ∈ D,∀ b,¬ c.bd b:=by (repeat (first | exact nb0 | refine nb1 ?_));first | done | fail) :
  TX E ⟨nn,[],none⟩ ⟨bodyPost P fn (RetP (PR w0 A0 R')),w0,A0⟩ [] .ret fr A:=⟨fun w hw=>⟨fun a ha=>
 bodyPost_ret (res_at (E:=E) ha hr ht hg hi hv (hw.mem hm) hcs hl hv2) (ha.defers.trans rfl) ⟨_,rfl,PR.mk h hw hf nb⟩⟩⟩
end
section
variable {P:Program} {E:Env P} {n:Sh} {X:Cx} {s:List K} {fr:Fr} {A:List Ch} {a b:Code}
theorem cutY {ι:Type} (p:ι→Prop) (fr':ι→Fr) (B:ι→List Ch) (hb:∀ i,p i→TC E n X s b (fr' i) (B i)) (ha:∀ b':Code,(∀ i,p i→∀ fr2 A2,Sub (fr' i) fr2→∀ {G},Fit A2 (B i) G→TC E n X s b' fr2 A2)→TC E n X (.code b' :: s) a fr A):TC E n X (.code b :: s) a fr A:=
 ha b fun i hp fr2 A2 hs _ hf=>⟨fun w hw=>SC_sub (fr' i) hs ((hb i hp).run w ((hw.im hf).im (Im.drop _ _)))⟩
end
end Go.Art
namespace Go.Art
open Go Go.Proofs Go.RowKit
theorem Ty.bnd {P:Program} {l:Nat} {vs:List Value} {pre C:List Ch} {R:Bool→List Ch→Prop} (h:Ty P l vs pre C fun b D=>R b [bnd D]):Ty P l vs pre [bnd C] R:=by
 refine ⟨fun w hw=>?_,h.lent⟩
 have e:∀ {w:World} {D:List Ch},Sat [Go.Art.bnd D] w ↔ Sat D w:=fun {w D}=>by
  rw [bnd_sat,List.append_nil]
 have h1:Sat (pre ++ C) w:=by
  obtain ⟨a1,a2,a3⟩:=Sat.app.1 hw
  have a4:=e.1 a2
  refine Sat.app.2 ⟨a1,a4,fun a ha c hc=>?_⟩
  have a5:=a3 a ha (Go.Art.bnd C) (List.Mem.head _)
  exact ⟨fun b hb hf=>a5.1 b hb (bnd_ft.2 ⟨c,hc,hf⟩),fun b hb hf=>a5.2 b ⟨c,hc,hb⟩ hf⟩
 have e1:∀ {D:List Ch} {b:Nat},wrs [Go.Art.bnd D] b ↔ wrs D b:=fun {D b}=>by have:=bnd_wrs (C:=D) (F:=[]) (b:=b);rwa [List.append_nil] at this
 have e2:∀ {D:List Ch} {b:Nat},rds [Go.Art.bnd D] b ↔ rds D b:=fun {D b}=>by have:=bnd_rds (C:=D) (F:=[]) (b:=b);rwa [List.append_nil] at this
 refine (h.run w h1).mono fun b w' ⟨B,hR,hS,hM,hB⟩=>⟨[Go.Art.bnd B],hR,e.2 hS,⟨hM.os,hM.tape,hM.output,hM.size,fun k hk hn=>hM.block k hk fun hm=>hn (e1.2 hm),fun x hx=>?_,fun x hx=>?_⟩,fun c hc x hx=>?_⟩
 ·rcases hM.wr x (e1.1 hx) with h2 | h2
  ·exact .inl (e1.2 h2)
  ·exact .inr h2
 ·rcases hM.rd x (e2.1 hx) with h2 | h2 | h2
  ·exact .inl (e1.2 h2)
  ·exact .inr (.inl (e2.2 h2))
  ·exact .inr (.inr h2)
 ·obtain rfl:=List.mem_singleton.1 hc
  obtain ⟨y,hy,h2⟩:=hx
  exact hB y hy x h2
theorem Tr.unb {P:Program} {f:FuncId} {args:List Value} {pre C:List Ch} {R R':Value→List Ch→Prop} (h:Tr P f args pre [Go.Art.bnd C] R) (k:∀ v D,R v D→∃ C',D = [Go.Art.bnd C']∧R' v C'):Tr P f args pre C R':=by
 refine ⟨fun w hw=>?_,h.lent⟩
 have hw':Sat (pre ++ [Go.Art.bnd C]) w:=by
  have h1:Sat (C ++ pre) w:=hw.perm List.perm_append_comm
  exact (bnd_sat.2 h1).perm (List.perm_append_comm (l₁:=[Go.Art.bnd C]) (l₂:=pre))
 have e1:∀ (C:List Ch) (b:Nat),wrs [Go.Art.bnd C] b ↔ wrs C b:=fun C b=>by have:=bnd_wrs (C:=C) (F:=[]) (b:=b);rwa [List.append_nil] at this
 have e2:∀ (C:List Ch) (b:Nat),rds [Go.Art.bnd C] b ↔ rds C b:=fun C b=>by have:=bnd_rds (C:=C) (F:=[]) (b:=b);rwa [List.append_nil] at this
 refine (h.run w hw').mono fun v w' ⟨B,hR,hS,hM,hB⟩=>?_
 obtain ⟨C',rfl,hR'⟩:=k v B hR
 refine ⟨C',hR',by have:=bnd_sat.1 hS;rwa [List.append_nil] at this,?_,fun c hc b hb=>hB _ (List.Mem.head _) b ⟨c,hc,hb⟩⟩
 exact ⟨hM.os,hM.tape,hM.output,hM.size,fun k hk hn=>hM.block k hk fun h=>hn ((e1 C k).1 h),fun b hb=>(hM.wr b ((e1 C' b).2 hb)).imp_left (e1 C b).1,
  fun b hb=>(hM.rd b ((e2 C' b).2 hb)).imp (e1 C b).1 (Or.imp_left (e2 C b).1)⟩
theorem bnd_nob {C:List Ch} (h:∀ c ∈ C,∀ b,¬ c.bd b) (b:Nat):¬ (bnd C).bd b:=fun ⟨c,hc,hb⟩=>h c hc b hb
structure SeqL (P:Program) (f:FuncId) (cap:Array Value) (pre:List Ch) (L:List (List Int)):Prop where
 run:∀ {α:Type} (l:Nat) (J:α→Ch) (pl:α→Nat→Prop) (S:α→Prop) (a0:α),pl a0 0→(∀ a b,¬ (J a).bd b) →
  (∀ a i x,pl a i→i < L.length→Ty P l [x] [vw x (Is (L.getD i []))] [J a] fun ok B=>∃ a',B = [J a']∧((ok = true∧pl a' (i + 1))∨(ok = false∧S a'))) →
  Tr P f (yv l :: cap.toList) pre [J a0] fun _ B=>∃ a,B = [J a]∧(pl a L.length∨S a)
 lent:∀ c ∈ pre,∀ b,¬ c.wr b∧¬ c.rd b
def endsL:Nat→Nat→List Int→List (List Int)
 | 0,_,b=>[b]
 | d + 1,k,b=>(List.range k).flatMap fun i:Nat=>endsL d (k - 1) (b ++ [(i:Int)])
theorem fm_succ {α:Type} (f:Nat→List α) (i:Nat):(List.range (i + 1)).flatMap f = (List.range i).flatMap f ++ f i:=by
 rw [List.range_succ,List.flatMap_append];simp
theorem fm_pre {α:Type} (f:Nat→List α) {i k:Nat} (h:i ≤ k):∃ r,(List.range k).flatMap f = (List.range i).flatMap f ++ r:=by
 obtain ⟨m,rfl⟩:=Nat.exists_eq_add_of_le h
 induction m with
 | zero=>exact ⟨[],by simp⟩
 | succ m ih=>
  obtain ⟨r,hr⟩:=ih (Nat.le_add_right _ _)
  exact ⟨r ++ f (i + m),by rw [← Nat.add_assoc,fm_succ,hr,List.append_assoc]⟩
theorem fm_get {α:Type} (f:Nat→List α) {i k j:Nat} (h:i < k) (hj:j < (f i).length) (z:α):((List.range i).flatMap f).length + j < ((List.range k).flatMap f).length∧((List.range k).flatMap f).getD (((List.range i).flatMap f).length + j) z = (f i).getD j z:=by
 obtain ⟨r,hr⟩:=fm_pre f (i:=i + 1) (k:=k) h
 rw [hr,fm_succ]
 refine ⟨by simp;omega,?_⟩
 rw [List.getD_eq_getElem?_getD,List.getD_eq_getElem?_getD,List.append_assoc,List.getElem?_append_right (by omega),Nat.add_sub_cancel_left,List.getElem?_append_left hj]
theorem fm_len {α:Type} (f:Nat→List α) (i:Nat):((List.range (i + 1)).flatMap f).length = ((List.range i).flatMap f).length + (f i).length:=by rw [fm_succ,List.length_append]
abbrev TLs:TypeId:=22
abbrev TYl:TypeId:=151
structure EnG (α:Type) where
 i:Nat
 a:α
 Ds:List Nat
attribute [local irreducible] Fit pt own ro vw mpc lpt vels rels mow lrc dfr
attribute [local irreducible] lmp lme mit velg relg bnd owl dfrl
theorem Clip_tr (v:Value) (l:List Int):Tr Tryz.prog 128 [v] [vw v (Is l)] [] fun u D=>u = clipV v l.length∧D = []:=by
 refine Tr.enter env _ Tryz.func128 (by kernel_rfl) rfl Tryz.ntmps128 rfl (by repeat (first | exact has00 | refine has01 ?_)) fun w0=>?_
 repeat' first|refine clv (v:=v) (l:=l) ?_|(refine wo ?_;first|refine oa ?_|refine lnm ?_)|refine sq ?_|refine rg ?_|refine xc ?_|refine nl ?_|refine rt ?_
 exact r1 ⟨rfl,rfl⟩
end Go.Art
namespace Go.Art
open Go Go.Proofs Go.RowKit
structure Cel (ps:List (Nat × Value)) (qs:List (Nat × List Value)):Prop where
 eq:ps.map (fun p=>(p.1,p.2.cells.toList)) = qs
theorem Cel.nil:Cel [] []:=⟨rfl⟩
theorem Cel.one {i:Nat} {v:Value} {ps:List (Nat × Value)} {qs:List (Nat × List Value)} (h:v.oneCell' = true) (k:Cel ps qs):Cel ((i,v) :: ps) ((i,[v]) :: qs):=⟨by
 rw [List.map_cons,k.eq,oneCell_cells h]⟩
theorem Cel.agg {i:Nat} {cs:List Value} {ps:List (Nat × Value)} {qs:List (Nat × List Value)} (k:Cel ps qs):Cel ((i,.agg cs.toArray) :: ps) ((i,cs) :: qs):=⟨by
 rw [List.map_cons,k.eq]
 rfl⟩
def setPartsC (pl:List (Nat × Nat)):List Value→List (Nat × List Value)→Option (List Value)
 | cs,[]=>some cs
 | cs,(i,us) :: r=>match pl[i]? with
  | some (off,sz)=>bif Nat.beq us.length sz && Nat.ble (off + sz) cs.length then setPartsC pl (cs.take off ++ us ++ cs.drop (off + sz)) r else none
  | none=>none
theorem setParts_C {pl:List (Nat × Nat)}:∀ {ps:List (Nat × Value)} {qs:List (Nat × List Value)} {cs cs':List Value},Cel ps qs→setPartsC pl cs qs = some cs'→setParts pl cs ps = some cs'
 | [],qs,cs,cs',h,k=>by
  obtain ⟨h⟩:=h
  subst h
  exact k
 | (i,v) :: ps,qs,cs,cs',h,k=>by
  obtain ⟨h⟩:=h
  subst h
  simp only [List.map_cons,setPartsC] at k
  simp only [setParts]
  cases hp:pl[i]? with
  | none=>rw [hp] at k;cases k
  | some q=>
   obtain ⟨off,sz⟩:=q
   rw [hp] at k
   simp only [Array.length_toList] at k ⊢
   cases hc:Nat.beq v.cells.size sz && Nat.ble (off + sz) cs.length with
   | false=>rw [hc] at k;cases k
   | true=>rw [hc] at k;exact setParts_C ⟨rfl⟩ k
section
variable {P:Program} {E:Env P} {n:Sh} {X:Cx} {s:List K} {fr:Fr} {A A':List Ch} {ops:Array Oper} {rest:List Oper} {d:Nat} {ty t:TypeId} {pos:String} {after:Array Edge}
theorem bdg {sz by_:Nat} {cs:List Value} {fl:List Field} {zs:List Value} {pl:List (Nat × Nat)} {parts:List (Nat × Operand)} {ps:List (Nat × Value)} (k:TO E n X s ops rest ((d,.agg cs.toArray) :: fr) A) (hv:evps fr parts = some ps:=by rfl)
  (ht:lk E.und t = some (.struct fl.toArray):=by rfl) (he:lk E.inf t = some (.agg zs.toArray,sz,by_):=by rfl) (hpl:places E.inf fl = some pl:=by rfl) (hs:setParts pl zs ps = some cs:=by rfl) (hd:Nat.blt d n.n = true:=by rfl) :
  TO E n X s ops (⟨some d,.build t parts.toArray,ty,pos,after,none⟩ :: rest) fr A:=TO.val (fun _ _=>R_build ht he hpl hv hs) k hd
theorem bdm {sz by_:Nat} {cs:List Value} {fl:List Field} {zs:List Value} {pl:List (Nat × Nat)} {parts:List (Nat × Operand)} {ps:List (Nat × Value)} {qs:List (Nat × List Value)} (k:TO E n X s ops rest ((d,.agg cs.toArray) :: fr) A) (hv:evps fr parts = some ps:=by rfl)
  (ht:lk E.und t = some (.struct fl.toArray):=by rfl) (he:lk E.inf t = some (.agg zs.toArray,sz,by_):=by rfl) (hpl:places E.inf fl = some pl:=by rfl) (hq:Cel ps qs:=by (repeat (first | exact Cel.nil | apply Cel.agg | (apply Cel.one;focus (first | rfl | assumption))));first | done | fail) (hs:setPartsC pl zs qs = some cs:=by rfl) (hd:Nat.blt d n.n = true:=by rfl) :
  TO E n X s ops (⟨some d,.build t parts.toArray,ty,pos,after,none⟩ :: rest) fr A:=bdg k hv ht he hpl (setParts_C hq hs) hd
theorem ldla {b j sz by_:Nat} {cs vs:List Value} {T:TypeId} {dt:TypeDesc} {z:Value} {x:Operand} (k:TO E n X s ops rest ((d,.agg vs.toArray) :: fr) A) (hx:ev fr x = some (.pointer (some ⟨b,j,none⟩)):=by rfl) (hm:lpt b cs T ∈ A:=by exact memA) (ht:lk E.und t = some dt:=by rfl) (hg:aggB dt = true:=by rfl) (hi:lk E.inf t = some (z,sz,by_):=by rfl)
  (hv:(cs.drop j).take sz = vs:=by rfl) (hl:vs.length = sz:=by rfl) (hd:Nat.blt d n.n = true:=by rfl):TO E n X s ops (⟨some d,.load t x,ty,pos,after,none⟩ :: rest) fr A:=TO.val (fun _ h=>R_loadA ht hg hi hx (h.h (lpt b cs T) hm) hv hl) k hd
end
end Go.Art
namespace Go.Art
open Go Go.Proofs Go.RowKit
def lvlL (tot:Int) (cut oth:List Int) (k c x:Nat):List (List Int):=endsL (alPick tot cut oth c x + 1).toNat k [(c:Int),(x:Int)]
def colL (tot:Int) (cut oth:List Int) (k c:Nat):List (List Int):=(List.range tot.toNat).flatMap fun x:Nat=>lvlL tot cut oth k c x
def allL (tot:Int) (cut oth:List Int) (k:Nat):List (List Int):=(List.range cut.length).flatMap fun c:Nat=>colL tot cut oth k c
structure AlG (α:Type) where
 i:Nat
 a:α
 Ds:List Nat
attribute [local irreducible] Fit pt own ro vw mpc lpt vels rels mow lrc dfr
attribute [local irreducible] lmp lme mit velg relg bnd owl dfrl lvlL colL
end Go.Art
namespace Go.Art
def nv:List Nat→Nat
 | []=>0
 | x :: r=>x + 18446744073709551616 * nv r
def dg (n:Nat):List Nat:=if h:n = 0 then [] else n % 18446744073709551616 :: dg (n / 18446744073709551616)
termination_by n
decreasing_by omega
def Dg (l:List Nat):Prop:=∀ x ∈ l,x < 18446744073709551616
theorem dg_zero:dg 0 = []:=by rw [dg];rfl
theorem dg_pos {n:Nat} (h:n ≠ 0):dg n = n % 18446744073709551616 :: dg (n / 18446744073709551616):=by rw [dg];simp [h]
theorem nv_dg (n:Nat):nv (dg n) = n:=by
 induction n using Nat.strongRecOn with
 | _ n ih=>
  by_cases h:n = 0
  ·subst h;rw [dg_zero];rfl
  ·rw [dg_pos h,nv,ih _ (by omega)];omega
theorem Dg_dg (n:Nat):Dg (dg n):=by
 induction n using Nat.strongRecOn with
 | _ n ih=>
  by_cases h:n = 0
  ·subst h;rw [dg_zero];exact fun x hx=>nomatch hx
  ·rw [dg_pos h];intro x hx
   rcases List.mem_cons.1 hx with rfl | hx
   ·exact Nat.mod_lt _ (by decide)
   ·exact ih _ (by omega) x hx
theorem Dg.nil:Dg []:=fun _ h=>nomatch h
theorem Dg.cons {x:Nat} {l:List Nat} (h:x < 18446744073709551616) (k:Dg l):Dg (x :: l):=fun y hy=>by rcases List.mem_cons.1 hy with rfl | hy;exact h;exact k y hy
theorem Dg.tail {x:Nat} {l:List Nat} (h:Dg (x :: l)):Dg l:=fun y hy=>h y (List.mem_cons_of_mem _ hy)
theorem Dg.head {x:Nat} {l:List Nat} (h:Dg (x :: l)):x < 18446744073709551616:=h x List.mem_cons_self
theorem Dg.app {a b:List Nat} (h:Dg a) (k:Dg b):Dg (a ++ b):=fun x hx=>by rcases List.mem_append.1 hx with h1 | h1;exact h x h1;exact k x h1
theorem Dg.one {x:Nat} (h:x < 18446744073709551616):Dg [x]:=Dg.cons h Dg.nil
theorem Dg.take {l:List Nat} (h:Dg l) (i:Nat):Dg (l.take i):=fun x hx=>h x (List.mem_of_mem_take hx)
theorem Dg.drop {l:List Nat} (h:Dg l) (i:Nat):Dg (l.drop i):=fun x hx=>h x (List.mem_of_mem_drop hx)
theorem Dg.sub {l:List Nat} (h:Dg l) (i j:Nat):Dg ((l.take j).drop i):=(h.take j).drop i
theorem Dg.set {l:List Nat} (h:Dg l) {i x:Nat} (hx:x < 18446744073709551616):Dg (l.set i x):=fun y hy=>by
 rcases List.mem_or_eq_of_mem_set hy with h1 | rfl
 ·exact h y h1
 ·exact hx
theorem Dg.rep (n:Nat):Dg (List.replicate n 0):=fun x hx=>by rw [List.eq_of_mem_replicate hx];decide
theorem Dg.getD {l:List Nat} (h:Dg l) (i:Nat):l.getD i 0 < 18446744073709551616:=by
 rw [List.getD_eq_getElem?_getD]
 cases hx:l[i]? with
 | none=>simp
 | some x=>exact h x (List.mem_of_getElem? hx)
theorem nv_app (a b:List Nat):nv (a ++ b) = nv a + 18446744073709551616 ^ a.length * nv b:=by
 induction a with
 | nil=>simp [nv]
 | cons x r ih=>rw [List.cons_append,nv,nv,ih,List.length_cons,Nat.pow_succ,Nat.mul_add,Nat.mul_assoc,Nat.mul_left_comm,Nat.add_assoc]
theorem nv_snoc (a:List Nat) (x:Nat):nv (a ++ [x]) = nv a + 18446744073709551616 ^ a.length * x:=by rw [nv_app];simp [nv]
theorem nv_lt {l:List Nat} (h:Dg l):nv l < 18446744073709551616 ^ l.length:=by
 induction l with
 | nil=>simp [nv]
 | cons x r ih=>
  have h1:=ih h.tail
  have h2:=h.head
  rw [nv,List.length_cons,Nat.pow_succ]
  omega
theorem nv_rep (n:Nat):nv (List.replicate n 0) = 0:=by
 induction n with
 | zero=>rfl
 | succ n ih=>rw [List.replicate_succ,nv,ih]
theorem nv_split (l:List Nat) (i:Nat):nv l = nv (l.take i) + 18446744073709551616 ^ (min i l.length) * nv (l.drop i):=by
 conv=>lhs;rw [← List.take_append_drop i l]
 rw [nv_app,List.length_take]
theorem nv_step (l:List Nat) (i:Nat):nv (l.drop i) = l.getD i 0 + 18446744073709551616 * nv (l.drop (i + 1)):=by
 by_cases h:i < l.length
 ·rw [List.drop_eq_getElem_cons h,nv,List.getD_eq_getElem?_getD,List.getElem?_eq_getElem h];rfl
 ·rw [List.drop_eq_nil_of_le (by omega),List.drop_eq_nil_of_le (by omega)]
  simp [nv,List.getD_eq_getElem?_getD,h]
theorem nv_take_succ (l:List Nat) (i:Nat) (h:i < l.length):nv (l.take (i + 1)) = nv (l.take i) + 18446744073709551616 ^ i * l.getD i 0:=by
 rw [List.take_succ_eq_append_getElem h,nv_snoc,List.length_take,Nat.min_eq_left (by omega),List.getD_eq_getElem?_getD,List.getElem?_eq_getElem h];rfl
def Tm (l:List Nat):Prop:=∀ a x,l = a ++ [x]→x ≠ 0
theorem Tm.nil:Tm []:=fun a x h=>by simp at h
theorem nv_zero {l:List Nat} (h:nv l = 0):∀ x ∈ l,x = 0:=by
 induction l with
 | nil=>exact fun _ h=>nomatch h
 | cons y r ih=>
  rw [nv] at h
  intro x hx
  rcases List.mem_cons.1 hx with rfl | hx
  ·omega
  ·exact ih (by omega) x hx
theorem Tm.tail {x:Nat} {l:List Nat} (h:Tm (x :: l)):Tm l:=fun a y e=>h (x :: a) y (by rw [e];rfl)
theorem Tm.pos {x:Nat} {l:List Nat} (h:Tm (x :: l)):nv (x :: l) ≠ 0:=by
 intro h0
 obtain ⟨a,y,e⟩ : ∃ a y,x :: l = a ++ [y]:=⟨(x :: l).dropLast,(x :: l).getLast (by simp),(List.dropLast_concat_getLast (by simp)).symm⟩
 exact h a y e (nv_zero h0 y (by rw [e];simp))
theorem dg_nv {l:List Nat} (h:Dg l) (t:Tm l):dg (nv l) = l:=by
 induction l with
 | nil=>exact dg_zero
 | cons x r ih=>
  rw [dg_pos t.pos,nv]
  have h1:=h.head
  rw [show (x + 18446744073709551616 * nv r) % 18446744073709551616 = x by omega,show (x + 18446744073709551616 * nv r) / 18446744073709551616 = nv r by omega,ih h.tail t.tail]
theorem Tm_dg (n:Nat):Tm (dg n):=by
 induction n using Nat.strongRecOn with
 | _ n ih=>
  by_cases h:n = 0
  ·subst h;rw [dg_zero];exact Tm.nil
  ·rw [dg_pos h];intro a x e
   cases a with
   | nil=>
    simp only [List.nil_append,List.cons.injEq] at e
    have h2:n / 18446744073709551616 = 0:=by rw [← nv_dg (n / 18446744073709551616),e.2];rfl
    omega
   | cons y a=>
    simp only [List.cons_append,List.cons.injEq] at e
    exact ih _ (by omega) a x e.2
theorem dg_nil {n:Nat}:dg n = [] ↔ n = 0:=⟨fun h=>by rw [← nv_dg n,h];rfl,fun h=>by rw [h,dg_zero]⟩
theorem dg_top {l:List Nat} {i:Nat} (h:Dg l) (h0:nv (l.drop i) = 0):nv (l.take i) = nv l:=by
 have:=nv_split l i;rw [h0] at this;omega
theorem Tm_of {l:List Nat} (h:l = []∨l.getD (l.length - 1) 0 ≠ 0):Tm l:=by
 intro a x e
 rcases h with rfl | h
 ·simp at e
 ·subst e
  simpa [List.getD_eq_getElem?_getD] using h
theorem Tm.top {l:List Nat} (h:Tm l) (hl:0 < l.length):l.getD (l.length - 1) 0 ≠ 0:=by
 have e:=(List.dropLast_concat_getLast (l:=l) (by rintro rfl;simp at hl)).symm
 have:=h _ _ e
 rw [List.getLast_eq_getElem] at this
 rwa [List.getD_eq_getElem?_getD,List.getElem?_eq_getElem (by omega)]
theorem dg_len (n m:Nat):(dg n).length ≤ m ↔ n < 18446744073709551616 ^ m:=by
 constructor
 ·intro h
  have h1:=nv_lt (Dg_dg n)
  rw [nv_dg] at h1
  exact Nat.lt_of_lt_of_le h1 (Nat.pow_le_pow_right (by decide) h)
 ·induction m generalizing n with
  | zero=>intro h;simp at h;subst h;rw [dg_zero];exact Nat.le_refl _
  | succ m ih=>
   intro h
   by_cases h0:n = 0
   ·subst h0;rw [dg_zero];exact Nat.zero_le _
   ·rw [dg_pos h0,List.length_cons]
    have:=ih (n / 18446744073709551616) (by rw [Nat.pow_succ] at h;exact Nat.div_lt_of_lt_mul (by rw [Nat.mul_comm];exact h))
    omega
theorem dg_one {n:Nat} (h:n < 18446744073709551616) (h0:n ≠ 0):dg n = [n]:=by
 rw [dg_pos h0,Nat.mod_eq_of_lt h,Nat.div_eq_of_lt h,dg_zero]
theorem nv_low {l:List Nat} (h:Dg l) (i:Nat):nv (l.take i) < 18446744073709551616 ^ i:=by
 have h1:=nv_lt (h.take i)
 refine Nat.lt_of_lt_of_le h1 (Nat.pow_le_pow_right (by decide) ?_)
 rw [List.length_take];omega
theorem nv_cut (l:List Nat) (i:Nat):nv l = nv (l.take i) + 18446744073709551616 ^ i * nv (l.drop i):=by
 by_cases h:i ≤ l.length
 ·have:=nv_split l i;rwa [Nat.min_eq_left h] at this
 ·rw [List.drop_eq_nil_of_le (by omega),List.take_of_length_le (by omega)];simp [nv]
theorem nv_lt_of {a b:List Nat} (ha:Dg a) (i:Nat) (h:nv (a.drop i) < nv (b.drop i)):nv a < nv b:=by
 rw [nv_cut a i,nv_cut b i]
 have h1:=nv_low ha i
 have h2:18446744073709551616 ^ i * nv (a.drop i) + 18446744073709551616 ^ i ≤ 18446744073709551616 ^ i * nv (b.drop i):=by
  rw [← Nat.mul_succ];exact Nat.mul_le_mul_left _ h
 omega
theorem nv_set (l:List Nat) (i x:Nat) (h:i < l.length):nv (l.set i x) + 18446744073709551616 ^ i * l.getD i 0 = nv l + 18446744073709551616 ^ i * x:=by
 rw [nv_cut (l.set i x) i,nv_cut l i,nv_step (l.set i x) i,nv_step l i]
 have e1:(l.set i x).take i = l.take i:=by rw [List.take_set,List.set_eq_of_length_le (by rw [List.length_take];omega)]
 have e2:(l.set i x).drop (i + 1) = l.drop (i + 1):=by rw [List.drop_set,if_pos (by omega)]
 have e3:(l.set i x).getD i 0 = x:=by simp [List.getD_eq_getElem?_getD,h]
 rw [e1,e2,e3]
 simp only [Nat.mul_add]
 omega
structure Hf (n1 n0 u u1 q r:Nat):Prop where
 n1a:2147483648 ≤ n1
 n1b:n1 < 4294967296
 n0b:n0 < 4294967296
 u1b:u1 < 4294967296
 ub:u < n1 * 4294967296 + n0
 eq:r + q * n1 = u
 q1:(u * 4294967296 + u1) / (n1 * 4294967296 + n0) ≤ q
 q2:q ≤ 4294967297
 r2:r < 4294967296
theorem Hf.first {n1 n0 u u1:Nat} (n1a:2147483648 ≤ n1) (n1b:n1 < 4294967296) (n0b:n0 < 4294967296) (u1b:u1 < 4294967296) (ub:u < n1 * 4294967296 + n0):Hf n1 n0 u u1 (u / n1) (u % n1):=by
 have h0:0 < n1:=by omega
 refine ⟨n1a,n1b,n0b,u1b,ub,by rw [Nat.mul_comm];exact Nat.mod_add_div u n1,?_,?_,by have:=Nat.mod_lt u h0;omega⟩
 ·rw [Nat.le_div_iff_mul_le h0]
  have h1:(u * 4294967296 + u1) / (n1 * 4294967296 + n0) ≤ (u * 4294967296 + u1) / (n1 * 4294967296):=Nat.div_le_div_left (by omega) (by omega)
  have h2:(u * 4294967296 + u1) / (n1 * 4294967296) = u / n1:=by
   have h3:(u * 4294967296 + u1) / 4294967296 = u:=by omega
   have h4:=Nat.div_div_eq_div_mul (u * 4294967296 + u1) 4294967296 n1
   rw [h3] at h4
   rw [Nat.mul_comm n1];exact h4.symm
  rw [h2] at h1
  exact Nat.le_trans (Nat.mul_le_mul_right _ h1) (Nat.div_mul_le_self u n1)
 ·have:u / n1 < 4294967298:=by
   rw [Nat.div_lt_iff_lt_mul h0]
   omega
  omega
variable {n1 n0 u u1 q r:Nat}
theorem Hf.mulb (h:Hf n1 n0 u u1 q r):q * n0 < 18446744073709551616:=by
 have h1:q * n0 ≤ 4294967297 * 4294967295:=Nat.mul_le_mul h.q2 (by have:=h.n0b;omega)
 omega
theorem Hf.goal (h:Hf n1 n0 u u1 q r):q * n0 ≤ 4294967296 * r + u1 ↔ q * (n1 * 4294967296 + n0) ≤ u * 4294967296 + u1:=by
 have h1:=h.eq
 rw [Nat.mul_add,← Nat.mul_assoc]
 omega
theorem Hf.less (h:Hf n1 n0 u u1 q r) (hc:¬ (q < 4294967296∧q * n0 ≤ 4294967296 * r + u1)):1 ≤ q∧(u * 4294967296 + u1) / (n1 * 4294967296 + n0) ≤ q - 1∧q - 1 ≤ 4294967296∧(r + n1) + (q - 1) * n1 = u:=by
 have h1:=h.n1a
 have hlt:(u * 4294967296 + u1) / (n1 * 4294967296 + n0) < q:=by
  rw [Nat.div_lt_iff_lt_mul (by omega)]
  by_cases h2:q < 4294967296
  ·have h3:¬ q * (n1 * 4294967296 + n0) ≤ u * 4294967296 + u1:=fun h4=>hc ⟨h2,h.goal.2 h4⟩
   omega
  ·have h3:4294967296 * (n1 * 4294967296 + n0) ≤ q * (n1 * 4294967296 + n0):=Nat.mul_le_mul_right _ (by omega)
   have:=h.ub;have:=h.u1b
   omega
 have hq:1 ≤ q:=Nat.lt_of_le_of_lt (Nat.zero_le _) hlt
 refine ⟨hq,Nat.le_sub_one_of_lt hlt,by have:=h.q2;omega,?_⟩
 have h5:=h.eq
 obtain ⟨m,rfl⟩ : ∃ m,q = m + 1:=⟨q - 1,by omega⟩
 rw [Nat.add_mul] at h5
 simp only [Nat.add_sub_cancel]
 omega
theorem Hf.next (h:Hf n1 n0 u u1 q r) (hc:¬ (q < 4294967296∧q * n0 ≤ 4294967296 * r + u1)) (hr:r + n1 < 4294967296):Hf n1 n0 u u1 (q - 1) (r + n1):=by
 obtain ⟨h1,h2,h3,h4⟩:=h.less hc
 exact ⟨h.n1a,h.n1b,h.n0b,h.u1b,h.ub,h4,h2,by omega,hr⟩
theorem Hf.done (h:Hf n1 n0 u u1 q r) (hc:q < 4294967296∧q * n0 ≤ 4294967296 * r + u1):q = (u * 4294967296 + u1) / (n1 * 4294967296 + n0):=by
 have h1:=h.goal.1 hc.2
 have:=h.n1a
 exact Nat.le_antisymm ((Nat.le_div_iff_mul_le (by omega)).2 h1) h.q1
theorem Hf.brk (h:Hf n1 n0 u u1 q r) (hc:¬ (q < 4294967296∧q * n0 ≤ 4294967296 * r + u1)) (hr:¬ r + n1 < 4294967296):q - 1 = (u * 4294967296 + u1) / (n1 * 4294967296 + n0):=by
 obtain ⟨h1,h2,h3,h4⟩:=h.less hc
 have:=h.n1a
 refine Nat.le_antisymm ((Nat.le_div_iff_mul_le (by omega)).2 ?_) h2
 have h5:(q - 1) * n0 ≤ 4294967296 * 4294967295:=Nat.mul_le_mul h3 (by have:=h.n0b;omega)
 rw [Nat.mul_add,← Nat.mul_assoc]
 omega
theorem Hf.qlt (u1b:u1 < 4294967296) (ub:u < n1 * 4294967296 + n0):(u * 4294967296 + u1) / (n1 * 4294967296 + n0) < 4294967296:=by
 rw [Nat.div_lt_iff_lt_mul (by omega)]
 omega
theorem div_one {V a u0:Nat} (hV:0 < V):(a * 4294967296 + u0) / V = a / V * 4294967296 + (a % V * 4294967296 + u0) / V∧(a * 4294967296 + u0) % V = (a % V * 4294967296 + u0) % V:=by
 have e:a * 4294967296 + u0 = V * (a / V * 4294967296) + (a % V * 4294967296 + u0):=by
  have h1:=Nat.div_add_mod a V
  rw [← Nat.mul_assoc,← Nat.add_assoc,← Nat.add_mul,h1]
 rw [e]
 exact ⟨Nat.mul_add_div hV _ _,Nat.mul_add_mod _ _ _⟩
theorem div_up {a y p:Nat} (hp:0 < p):a * p / (y * p) = a / y∧a * p % (y * p) = a % y * p:=⟨Nat.mul_div_mul_right _ _ hp,Nat.mul_mod_mul_right _ _ _⟩
end Go.Art
namespace Go.Art
open Go Go.Proofs
def renMul:Shelf.Ren:=
{
 f:=fun x=>
  match x with
  | 264=>287
  | n=>n,
 t:=fun x=>
  match x with
  | 53=>145
  | 46=>230
  | n=>n,
 g:=fun x=>
  have n:=x;
  n }
theorem laysMul:Lays.n264 Tryz.prog renMul:=
{mixed:=Eq.refl true,f264:=Eq.trans Tryz.func287 (congrArg some (Eq.refl (Body.n264 renMul))),
 t46:=Tryz.underlying230,a46:=Tryz.isAgg230,z46:=Tryz.sizeOf230,v46:=Tryz.zeroValue230,
 t53:=Tryz.underlying145,a53:=Tryz.isAgg145,z53:=Tryz.sizeOf145,v53:=Tryz.zeroValue145 }
open Go Go.Proofs
def renLen:Shelf.Ren:=
{
 f:=fun x=>
  match x with
  | 129=>186
  | n=>n,
 t:=fun x=>
  match x with
  | 53=>145
  | 3=>3
  | 4=>4
  | 46=>230
  | 5=>5
  | 9=>9
  | n=>n,
 g:=fun x=>
  have n:=x;
  n }
theorem laysLen:Lays.n129 Tryz.prog renLen:=
{mixed:=Eq.refl true,f129:=Eq.trans Tryz.func186 (congrArg some (Eq.refl (Body.n129 renLen))),
 t3:=Tryz.underlying3,a3:=Tryz.isAgg3,z3:=Tryz.sizeOf3,v3:=Tryz.zeroValue3,t4:=Tryz.underlying4,
 a4:=Tryz.isAgg4,z4:=Tryz.sizeOf4,v4:=Tryz.zeroValue4,t5:=Tryz.underlying5,a5:=Tryz.isAgg5,
 z5:=Tryz.sizeOf5,v5:=Tryz.zeroValue5,t9:=Tryz.underlying9,a9:=Tryz.isAgg9,z9:=Tryz.sizeOf9,
 v9:=Tryz.zeroValue9,t46:=Tryz.underlying230,a46:=Tryz.isAgg230,z46:=Tryz.sizeOf230,
 v46:=Tryz.zeroValue230,t53:=Tryz.underlying145,a53:=Tryz.isAgg145,z53:=Tryz.sizeOf145,
 v53:=Tryz.zeroValue145 }
open Go Go.Proofs
def renLz:Shelf.Ren:=
{
 f:=fun x=>
  match x with
  | 134=>252
  | 129=>186
  | n=>n,
 t:=fun x=>
  match x with
  | 53=>145
  | 3=>3
  | 4=>4
  | 46=>230
  | 5=>5
  | 9=>9
  | n=>n,
 g:=fun x=>
  have n:=x;
  n }
theorem laysLz:Lays.n134 Tryz.prog renLz:=
{mixed:=Eq.refl true,f129:=Eq.trans Tryz.func186 (congrArg some (Eq.refl (Body.n129 renLz))),
 f134:=Eq.trans Tryz.func252 (congrArg some (Eq.refl (Body.n134 renLz))),t3:=Tryz.underlying3,
 a3:=Tryz.isAgg3,z3:=Tryz.sizeOf3,v3:=Tryz.zeroValue3,t4:=Tryz.underlying4,a4:=Tryz.isAgg4,
 z4:=Tryz.sizeOf4,v4:=Tryz.zeroValue4,t5:=Tryz.underlying5,a5:=Tryz.isAgg5,z5:=Tryz.sizeOf5,
 v5:=Tryz.zeroValue5,t9:=Tryz.underlying9,a9:=Tryz.isAgg9,z9:=Tryz.sizeOf9,v9:=Tryz.zeroValue9,
 t46:=Tryz.underlying230,a46:=Tryz.isAgg230,z46:=Tryz.sizeOf230,v46:=Tryz.zeroValue230,
 t53:=Tryz.underlying145,a53:=Tryz.isAgg145,z53:=Tryz.sizeOf145,v53:=Tryz.zeroValue145 }
open Go Go.Proofs Go.RowKit
abbrev Un (n:Nat):Value:=.int .u64 (n:Int)
abbrev Us (l:List Nat):List Value:=l.map Un
theorem Us_len (l:List Nat):(Us l).length = l.length:=List.length_map ..
theorem Us_get (l:List Nat) (i:Nat) (h:i < l.length):(Us l)[i]? = some (Un (l.getD i 0)):=by simp [List.getD_eq_getElem?_getD,h]
theorem Us_set (l:List Nat) (i:Nat) (c:Nat):Us (l.set i c) = (Us l).set i (Un c):=by simp [List.map_set]
theorem Us_one (l:List Nat):∀ c ∈ Us l,c.oneCell' = true:=fun c hc=>by obtain ⟨x,_,rfl⟩:=List.mem_map.1 hc;rfl
theorem Us_app (l m:List Nat):Us (l ++ m) = Us l ++ Us m:=List.map_append ..
theorem Us_rep (n:Nat) (x:Nat):List.replicate n (Un x) = Us (List.replicate n x):=by simp
theorem Us_sub (l:List Nat) (lo hi:Nat):((Us l).take hi).drop lo = Us ((l.take hi).drop lo):=by simp [List.map_take,List.map_drop]
theorem Us_take (l:List Nat) (i:Nat):(Us l).take i = Us (l.take i):=by simp [List.map_take]
theorem Us_drop (l:List Nat) (i:Nat):(Us l).drop i = Us (l.drop i):=by simp [List.map_drop]
section
variable {P:Program} {E:Env P} {n:Sh} {X:Cx} {s:List K} {fr:Fr} {A A':List Ch} {ops:Array Oper} {rest:List Oper} {d:Nat} {ty t t':TypeId} {pos:String} {after:Array Edge} {x y:Operand} {w:World} {a b c j by_:Nat} {z v u:Value} {el:TypeId} {dt:TypeDesc} {l:List Nat} {c0:Code}
theorem ev_lit (m:Nat):ev fr (.const (.int .u64 (@OfNat.ofNat Int m instOfNat))) = some (Un (@OfNat.ofNat Nat m (instOfNatNat m))):=rfl
theorem wrapN (m:Int) (k:Nat) (h:m % 18446744073709551616 = (k:Int)):(Value.int .u64 (IntKind.u64.wrap m)) = Un k:=by rw [Go.IntKind.wrap_u64,h]
theorem R_nadd (hx:ev fr x = some (Un a)) (hy:ev fr y = some (Un b)):OpV P n fr (.binOp .add t x y t') ty w (Un ((a + b) % 18446744073709551616)) w:=R_bin hx hy (by
 show Result.ok (Value.int .u64 (IntKind.u64.wrap ((a:Int) + (b:Int)))) w = _
 rw [wrapN _ ((a + b) % 18446744073709551616) (by omega)])
theorem R_nsub (hx:ev fr x = some (Un a)) (hy:ev fr y = some (Un b)) (h:b < 18446744073709551616):OpV P n fr (.binOp .sub t x y t') ty w (Un ((a + 18446744073709551616 - b) % 18446744073709551616)) w:=R_bin hx hy (by
 show Result.ok (Value.int .u64 (IntKind.u64.wrap ((a:Int) - (b:Int)))) w = _
 rw [wrapN _ ((a + 18446744073709551616 - b) % 18446744073709551616) (by omega)])
theorem R_nmul (hx:ev fr x = some (Un a)) (hy:ev fr y = some (Un b)):OpV P n fr (.binOp .mul t x y t') ty w (Un (a * b % 18446744073709551616)) w:=R_bin hx hy (by
 show Result.ok (Value.int .u64 (IntKind.u64.wrap ((a:Int) * (b:Int)))) w = _
 rw [wrapN _ (a * b % 18446744073709551616) (by rw [← Int.natCast_mul];omega)])
theorem bv64 {k:Nat} (h:k < 18446744073709551616):(BitVec.ofInt 64 (k:Int)).toNat = k:=by
 rw [BitVec.ofInt_natCast,BitVec.toNat_ofNat];exact Nat.mod_eq_of_lt (by omega)
theorem R_nand (hx:ev fr x = some (Un a)) (hy:ev fr y = some (Un b)) (ha:a < 18446744073709551616) (hb:b < 18446744073709551616):OpV P n fr (.binOp .and t x y t') ty w (Un (a &&& b)) w:=R_bin hx hy (by
 show Result.ok (Value.int .u64 (IntKind.u64.wrap ((BitVec.ofInt 64 (a:Int) &&& BitVec.ofInt 64 (b:Int)).toNat:Int))) w = _
 have hx:a &&& b < 2 ^ 64:=Nat.and_lt_two_pow _ (by omega)
 rw [BitVec.toNat_and,bv64 ha,bv64 hb,wrapN _ (a &&& b) (by omega)])
theorem R_nor (hx:ev fr x = some (Un a)) (hy:ev fr y = some (Un b)) (ha:a < 18446744073709551616) (hb:b < 18446744073709551616):OpV P n fr (.binOp .or t x y t') ty w (Un (a ||| b)) w:=R_bin hx hy (by
 show Result.ok (Value.int .u64 (IntKind.u64.wrap ((BitVec.ofInt 64 (a:Int) ||| BitVec.ofInt 64 (b:Int)).toNat:Int))) w = _
 have hx:a ||| b < 2 ^ 64:=Nat.or_lt_two_pow (by omega) (by omega)
 rw [BitVec.toNat_or,bv64 ha,bv64 hb,wrapN _ (a ||| b) (by omega)])
theorem R_nshl {k':IntKind} {c:Int} (hx:ev fr x = some (Un a)) (hy:ev fr y = some (.int k' c)) (hc:0 ≤ c):OpV P n fr (.binOp .shl t x y t') ty w (Un (a * 2 ^ (min c.toNat 64) % 18446744073709551616)) w:=⟨fun act ha _ _ _ _=>by
 have hg:(eqGuard .shl t x y (Un a) (.int k' c)).run P w = .ok () w:=rfl
 have h1:¬ c < 0:=by omega
 simp only [execOp,ha.ev hx,ha.ev hy]
 simp only [hg,Sem.run_bind,Result.andThen_ok]
 show (Result.andThen ((binOp .shl t (Un a) (.int k' c)).run P w) _) = _
 simp only [binOp,Op.shift,h1,if_false]
 show Result.ok (Next.value (.int .u64 (IntKind.u64.wrap ((a:Int) * 2 ^ (min c.toNat 64))))) w = _
 rw [wrapN _ (a * 2 ^ (min c.toNat 64) % 18446744073709551616) (by
  have e:(a:Int) * 2 ^ (min c.toNat 64) = ((a * 2 ^ (min c.toNat 64):Nat):Int):=by rw [Int.natCast_mul,Int.natCast_pow];rfl
  rw [e];omega)]⟩
theorem R_nshr {k':IntKind} {c:Int} (hx:ev fr x = some (Un a)) (hy:ev fr y = some (.int k' c)) (hc:0 ≤ c):OpV P n fr (.binOp .shr t x y t') ty w (Un (a / 2 ^ (min c.toNat 64))) w:=⟨fun act ha _ _ _ _=>by
 have hg:(eqGuard .shr t x y (Un a) (.int k' c)).run P w = .ok () w:=rfl
 have h1:¬ c < 0:=by omega
 have h3:(a:Int).fdiv (2 ^ (min c.toNat 64)) = ((a / 2 ^ (min c.toNat 64):Nat):Int):=by
  rw [Int.fdiv_eq_ediv_of_nonneg _ (Int.le_of_lt (Int.pow_pos (by decide))),Int.natCast_ediv,Int.natCast_pow];rfl
 simp only [execOp,ha.ev hx,ha.ev hy]
 simp only [hg,Sem.run_bind,Result.andThen_ok]
 show (Result.andThen ((binOp .shr t (Un a) (.int k' c)).run P w) _) = _
 simp only [binOp,Op.shift,h1,if_false]
 show Result.ok (Next.value (.int .u64 ((a:Int).fdiv (2 ^ (min c.toNat 64))))) w = _
 rw [h3]⟩
theorem R_nquo (hx:ev fr x = some (Un a)) (hy:ev fr y = some (Un b)) (h:b ≠ 0) (ha:a < 18446744073709551616):OpV P n fr (.binOp .quo t x y t') ty w (Un (a / b)) w:=by
 have h1:=R_quo (P:=P) (n:=n) (w:=w) (t:=t) (t':=t') (ty:=ty) hx hy (by omega)
 have h2:a / b ≤ a:=Nat.div_le_self _ _
 rw [Int.tdiv_eq_ediv_of_nonneg (by omega),← Int.natCast_ediv,wrapN _ (a / b) (by generalize a / b = q at h2 ⊢;omega)] at h1
 exact h1
theorem R_nrem (hx:ev fr x = some (Un a)) (hy:ev fr y = some (Un b)) (h:b ≠ 0):OpV P n fr (.binOp .rem t x y t') ty w (Un (a % b)) w:=by
 have h1:=R_rem (P:=P) (n:=n) (w:=w) (t:=t) (t':=t') (ty:=ty) hx hy (by omega)
 rw [Int.tmod_eq_emod_of_nonneg (by omega),← Int.natCast_emod] at h1
 exact h1
/-! sums, with and without a carry out of the word -/
theorem nad (k:TO E n X s ops rest ((d,Un (a + b)) :: fr) A) (hx:ev fr x = some (Un a):=by first | with_reducible exact ev_lit _ | rfl) (hy:ev fr y = some (Un b):=by first | with_reducible exact ev_lit _ | rfl) (hb:a + b < 18446744073709551616:=by omega) (hd:Nat.blt d n.n = true:=by rfl):TO E n X s ops (⟨some d,.binOp .add t x y t',ty,pos,after,none⟩ :: rest) fr A:=
 TO.val (fun _ _=>by have:=R_nadd (P:=P) (n:=n) (w:=‹World›) (t:=t) (t':=t') (ty:=ty) hx hy;rwa [Nat.mod_eq_of_lt hb] at this) k hd
theorem nsb (k:TO E n X s ops rest ((d,Un (a - b)) :: fr) A) (hx:ev fr x = some (Un a):=by first | with_reducible exact ev_lit _ | rfl) (hy:ev fr y = some (Un b):=by first | with_reducible exact ev_lit _ | rfl) (hb:b ≤ a∧a < 18446744073709551616:=by omega) (hd:Nat.blt d n.n = true:=by rfl):TO E n X s ops (⟨some d,.binOp .sub t x y t',ty,pos,after,none⟩ :: rest) fr A:=
 TO.val (fun _ _=>by have:=R_nsub (P:=P) (n:=n) (w:=‹World›) (t:=t) (t':=t') (ty:=ty) hx hy (by omega);rwa [show (a + 18446744073709551616 - b) % 18446744073709551616 = a - b by omega] at this) k hd
theorem nsbm (k:TO E n X s ops rest ((d,Un ((a + 18446744073709551616 - b) % 18446744073709551616)) :: fr) A) (hx:ev fr x = some (Un a):=by first | with_reducible exact ev_lit _ | rfl) (hy:ev fr y = some (Un b):=by first | with_reducible exact ev_lit _ | rfl) (hb:b < 18446744073709551616:=by omega) (hd:Nat.blt d n.n = true:=by rfl):TO E n X s ops (⟨some d,.binOp .sub t x y t',ty,pos,after,none⟩ :: rest) fr A:=TO.val (fun _ _=>R_nsub hx hy hb) k hd
theorem nml (k:TO E n X s ops rest ((d,Un (a * b)) :: fr) A) (hx:ev fr x = some (Un a):=by first | with_reducible exact ev_lit _ | rfl) (hy:ev fr y = some (Un b):=by first | with_reducible exact ev_lit _ | rfl) (hb:a * b < 18446744073709551616:=by first | assumption | omega) (hd:Nat.blt d n.n = true:=by rfl):TO E n X s ops (⟨some d,.binOp .mul t x y t',ty,pos,after,none⟩ :: rest) fr A:=
 TO.val (fun _ _=>by have:=R_nmul (P:=P) (n:=n) (w:=‹World›) (t:=t) (t':=t') (ty:=ty) hx hy;rwa [Nat.mod_eq_of_lt hb] at this) k hd
theorem nmlm (k:TO E n X s ops rest ((d,Un (a * b % 18446744073709551616)) :: fr) A) (hx:ev fr x = some (Un a):=by first | with_reducible exact ev_lit _ | rfl) (hy:ev fr y = some (Un b):=by first | with_reducible exact ev_lit _ | rfl) (hd:Nat.blt d n.n = true:=by rfl):TO E n X s ops (⟨some d,.binOp .mul t x y t',ty,pos,after,none⟩ :: rest) fr A:=TO.val (fun _ _=>R_nmul hx hy) k hd
theorem nmk (k:TO E n X s ops rest ((d,Un (a % 4294967296)) :: fr) A) (hx:ev fr x = some (Un a):=by first | with_reducible exact ev_lit _ | rfl) (hy:ev fr y = some (Un 4294967295):=by rfl) (ha:a < 18446744073709551616:=by omega) (hd:Nat.blt d n.n = true:=by rfl):TO E n X s ops (⟨some d,.binOp .and t x y t',ty,pos,after,none⟩ :: rest) fr A:=
 TO.val (fun _ _=>by have:=R_nand (P:=P) (n:=n) (w:=‹World›) (t:=t) (t':=t') (ty:=ty) hx hy ha (by decide);rwa [show a &&& 4294967295 = a % 4294967296 from Nat.and_two_pow_sub_one_eq_mod a 32] at this) k hd
theorem nor (k:TO E n X s ops rest ((d,Un (a ||| b)) :: fr) A) (hx:ev fr x = some (Un a):=by first | with_reducible exact ev_lit _ | rfl) (hy:ev fr y = some (Un b):=by first | with_reducible exact ev_lit _ | rfl) (ha:a < 18446744073709551616:=by omega) (hb:b < 18446744073709551616:=by omega) (hd:Nat.blt d n.n = true:=by rfl):TO E n X s ops (⟨some d,.binOp .or t x y t',ty,pos,after,none⟩ :: rest) fr A:=TO.val (fun _ _=>R_nor hx hy ha hb) k hd
theorem nsl {k':IntKind} {c:Int} (k:TO E n X s ops rest ((d,Un (a * 2 ^ (min c.toNat 64) % 18446744073709551616)) :: fr) A) (hx:ev fr x = some (Un a):=by first | with_reducible exact ev_lit _ | rfl) (hy:ev fr y = some (.int k' c):=by rfl) (hc:0 ≤ c:=by omega) (hd:Nat.blt d n.n = true:=by rfl):TO E n X s ops (⟨some d,.binOp .shl t x y t',ty,pos,after,none⟩ :: rest) fr A:=TO.val (fun _ _=>R_nshl hx hy hc) k hd
theorem nsr {k':IntKind} {c:Int} (k:TO E n X s ops rest ((d,Un (a / 2 ^ (min c.toNat 64))) :: fr) A) (hx:ev fr x = some (Un a):=by first | with_reducible exact ev_lit _ | rfl) (hy:ev fr y = some (.int k' c):=by rfl) (hc:0 ≤ c:=by omega) (hd:Nat.blt d n.n = true:=by rfl):TO E n X s ops (⟨some d,.binOp .shr t x y t',ty,pos,after,none⟩ :: rest) fr A:=TO.val (fun _ _=>R_nshr hx hy hc) k hd
theorem nqu (k:TO E n X s ops rest ((d,Un (a / b)) :: fr) A) (hx:ev fr x = some (Un a):=by first | with_reducible exact ev_lit _ | rfl) (hy:ev fr y = some (Un b):=by first | with_reducible exact ev_lit _ | rfl) (h:b ≠ 0:=by omega) (ha:a < 18446744073709551616:=by omega) (hd:Nat.blt d n.n = true:=by rfl):TO E n X s ops (⟨some d,.binOp .quo t x y t',ty,pos,after,none⟩ :: rest) fr A:=TO.val (fun _ _=>R_nquo hx hy h ha) k hd
theorem ntu {k0:IntKind} {m:Int} (k:TO E n X s ops rest ((d,Un m.toNat) :: fr) A) (hx:ev fr x = some (.int k0 m):=by rfl) (hs:(lk E.und t).isSome = true:=by rfl) (ht:lk E.und t' = some (.int .u64):=by rfl) (hb:0 ≤ m∧m < 18446744073709551616:=by omega) (hd:Nat.blt d n.n = true:=by rfl):TO E n X s ops (⟨some d,.convert t t' x,ty,pos,after,none⟩ :: rest) fr A:=
 TO.val (fun _ _=>by have:=R_conv (P:=P) (n:=n) (w:=‹World›) (ty:=ty) ht hs hx;rwa [wrapN m m.toNat (by omega)] at this) k hd
theorem qnqu (k:TQ E n X s ops rest ((d,Un (a / b)) :: fr) A) (hx:ev fr x = some (Un a):=by first | with_reducible exact ev_lit _ | rfl) (hy:ev fr y = some (Un b):=by first | with_reducible exact ev_lit _ | rfl) (h:b ≠ 0:=by omega) (ha:a < 18446744073709551616:=by omega) (hd:Nat.blt d n.n = true:=by rfl):TQ E n X s ops (⟨some d,.binOp .quo t x y t',ty,pos,after,none⟩ :: rest) fr A:=TQ.val (fun _ _=>R_nquo hx hy h ha) k hd
theorem qnrm (k:TQ E n X s ops rest ((d,Un (a % b)) :: fr) A) (hx:ev fr x = some (Un a):=by first | with_reducible exact ev_lit _ | rfl) (hy:ev fr y = some (Un b):=by first | with_reducible exact ev_lit _ | rfl) (h:b ≠ 0:=by omega) (hd:Nat.blt d n.n = true:=by rfl):TQ E n X s ops (⟨some d,.binOp .rem t x y t',ty,pos,after,none⟩ :: rest) fr A:=TQ.val (fun _ _=>R_nrem hx hy h) k hd
theorem qnsl {k':IntKind} {c:Int} (k:TQ E n X s ops rest ((d,Un (a * 2 ^ (min c.toNat 64) % 18446744073709551616)) :: fr) A) (hx:ev fr x = some (Un a):=by first | with_reducible exact ev_lit _ | rfl) (hy:ev fr y = some (.int k' c):=by rfl) (hc:0 ≤ c:=by omega) (hd:Nat.blt d n.n = true:=by rfl):TQ E n X s ops (⟨some d,.binOp .shl t x y t',ty,pos,after,none⟩ :: rest) fr A:=TQ.val (fun _ _=>R_nshl hx hy hc) k hd
theorem qnsr {k':IntKind} {c:Int} (k:TQ E n X s ops rest ((d,Un (a / 2 ^ (min c.toNat 64))) :: fr) A) (hx:ev fr x = some (Un a):=by first | with_reducible exact ev_lit _ | rfl) (hy:ev fr y = some (.int k' c):=by rfl) (hc:0 ≤ c:=by omega) (hd:Nat.blt d n.n = true:=by rfl):TQ E n X s ops (⟨some d,.binOp .shr t x y t',ty,pos,after,none⟩ :: rest) fr A:=TQ.val (fun _ _=>R_nshr hx hy hc) k hd
/-! digits in slices -/
theorem lu (k:TO E n X s ops rest ((d,Un (l.getD j 0)) :: fr) A) (hx:ev fr x = some (.pointer (some (addrAt v j))):=by rfl) (hh:Has A (vw v (Us l)):=by exact hasA) (hj:j < l.length:=by omega)
  (ht:lk E.und t = some dt:=by rfl) (hg:aggB dt = false:=by rfl) (hd:Nat.blt d n.n = true:=by rfl):TO E n X s ops (⟨some d,.load t x,ty,pos,after,none⟩ :: rest) fr A:=le k hx hh (Us_get l j hj) ht hg hd
theorem lue (he:l.getD j 0 = a) (k:TO E n X s ops rest ((d,Un a) :: fr) A) (hx:ev fr x = some (.pointer (some (addrAt v j))):=by rfl) (hh:Has A (vw v (Us l)):=by exact hasA) (hj:j < l.length:=by omega)
  (ht:lk E.und t = some dt:=by rfl) (hg:aggB dt = false:=by rfl) (hd:Nat.blt d n.n = true:=by rfl):TO E n X s ops (⟨some d,.load t x,ty,pos,after,none⟩ :: rest) fr A:=lu (l:=l) (by rw [he];exact k) hx hh hj ht hg hd
theorem qlu (k:TQ E n X s ops rest ((d,Un (l.getD j 0)) :: fr) A) (hx:ev fr x = some (.pointer (some (addrAt v j))):=by rfl) (hh:Has A (vw v (Us l)):=by exact hasA) (hj:j < l.length:=by omega)
  (ht:lk E.und t = some dt:=by rfl) (hg:aggB dt = false:=by rfl) (hd:Nat.blt d n.n = true:=by rfl):TQ E n X s ops (⟨some d,.load t x,ty,pos,after,none⟩ :: rest) fr A:=qle k hx hh (Us_get l j hj) ht hg hd
theorem sou (k:TO E n X s ops rest fr (own el v (Us (l.set j a)) :: A')) (hx:ev fr x = some (.pointer (some (addrAt v j))):=by rfl) (hm:Tk (own el v (Us l)) A A':=by exact tkA) (hy:ev fr y = some (Un a):=by first | with_reducible exact ev_lit _ | rfl)
  (hj:j < l.length:=by omega) (ht:lk E.inf t = some (z,1,by_):=by rfl):TO E n X s ops (⟨none,.store t x y,ty,pos,after,none⟩ :: rest) fr A:=so k hx hm hy (by rw [Us_len];exact hj) (Us_set l j a) rfl ht
theorem apu {news:List Nat} {e:TypeId} (k:∀ v',TO E n X s ops rest ((d,v') :: fr) (own e v' (Us (l ++ news)) :: A')) (hx:ev fr x = some v:=by rfl) (hy:ev fr y = some u:=by rfl) (hm:Tk (own e v (Us l)) A A':=by exact tkA) (hu:Has A' (vw u (Us news)):=by exact hasA)
  (hl:l.length + news.length ≤ 17592186044416:=by first | omega | (simp only [List.length_append,List.length_cons,List.length_nil];omega)) (ht:lk E.und t = some (.slice e):=by rfl) (he:lk E.inf e = some (z,1,by_):=by rfl) (hz:z.cells.size = 1:=by rfl) (hb:by_ ≤ 8:=by decide)
  (hd:Nat.blt d n.n = true:=by rfl):TO E n X s ops (⟨some d,.call ⟨.builtin .append,#[x,y],#[t,t]⟩,ty,pos,after,none⟩ :: rest) fr A:=
 ap (fun v'=>by have:=k v';rwa [Us_app] at this) hx hy hm hu (Us_one news) ht he hz (by rw [Us_len,Us_len];have:=Nat.mul_le_mul hl hb;omega) (by rw [Us_len,Us_len];omega) hd
theorem mku {k1:IntKind} {m:Int} {e:TypeId} (k:∀ v',TO E n X s ops rest ((d,v') :: fr) (own e v' (Us (List.replicate m.toNat 0)) :: A)) (hx:ev fr x = some (.int k1 m):=by rfl) (hy:ev fr y = some (.int k1 m):=by rfl) (ht:lk E.und t = some (.slice e):=by rfl)
  (he:lk E.inf e = some (Un 0,1,by_):=by rfl) (h0:0 ≤ m:=by omega) (hby:by_ * m.toNat ≤ 281474976710656:=by omega) (h63:m ≤ 9223372036854775807:=by omega) (hd:Nat.blt d n.n = true:=by rfl) :
  TO E n X s ops (⟨some d,.makeSlice t x y,ty,pos,after,none⟩ :: rest) fr A:=mk (fun v'=>by have:=k v';rwa [← Us_rep] at this) hx hy ht he rfl h0 hby h63 hd
theorem slu {m:Nat} {parts:List (Nat × Operand)} {e:TypeId} (l:List Nat) (k:∀ v',v'.oneCell' = true→TO E n X s ops rest ((d,v') :: fr) (own e v' (Us l) :: A)) (hp:parts = idxP 0 (parts.map (·.2)):=by rfl) (hv:evs fr (parts.map (·.2)) = some (Us l):=by rfl)
  (hk:l.length = m:=by rfl) (hk0:Nat.blt 0 m = true:=by rfl) (hkm:Nat.ble m 16777216 = true:=by rfl) (ht:lk E.und t = some (.slice e):=by rfl) (he:lk E.inf e = some (z,1,by_):=by rfl) (hd:Nat.blt d n.n = true:=by rfl) :
  TO E n X s ops (⟨some d,.buildSlice t m parts.toArray,ty,pos,after,none⟩ :: rest) fr A:=sli (fun v=>TO.one (v:=v) (xs:=Us l) (fun h=>k v h) hasA) hp hv (Us_one l) (by rw [Us_len];exact hk) hk0 hkm ht he hd
theorem TC.lenu (k:l.length ≤ 9223372036854775807→TC E n X s c0 fr A) (hh:Has A (vw v (Us l)):=by exact hasA):TC E n X s c0 fr A:=TC.fact (vw_len hh) fun h=>k (by rwa [Us_len] at h)
theorem R_cx {f:FuncId} {xs:List Operand} {ats:Array TypeId} {vs:List Value} (hf:∀ w,(callFunc f vs.toArray).run P w = .ok (.value v) w) (hv:evs fr xs = some vs):OpV P n fr (.call ⟨.value (.func f),xs.toArray,ats⟩) ty w v w:=⟨fun act ha _ _ _ _=>by
 have h1:=hf w
 have h2:(Array.map act.eval xs.toArray) = vs.toArray:=by simp [ha.evs hv]
 simp only [execOp,resolve,h2]
 show (Sem.run P ((Deferred.ofValue (.func (.func f) #[] #[]) vs.toArray).bind fun d=>invoke d.target d.args) w) = _
 simp only [Deferred.ofValue]
 simp [invoke,h1,Sem.bind,bind,pure]⟩
theorem cx {f:FuncId} {xs:List Operand} {ats:Array TypeId} {vs:List Value} (hf:∀ w,(callFunc f vs.toArray).run P w = .ok (.value v) w) (k:TO E n X s ops rest ((d,v) :: fr) A) (hv:evs fr xs = some vs:=by rfl) (hd:Nat.blt d n.n = true:=by rfl):TO E n X s ops (⟨some d,.call ⟨.value (.func f),xs.toArray,ats⟩,ty,pos,after,none⟩ :: rest) fr A:=
 TO.val (fun _ _=>R_cx hf hv) k hd
end
/-! .. with the outcome named -/
section
variable {P:Program} {E:Env P} {n:Sh} {X:Cx} {s:List K} {fr:Fr} {A:List Ch} {ops:Array Oper} {rest:List Oper} {d:Nat} {ty t t':TypeId} {pos:String} {after:Array Edge} {x y:Operand} {a b r:Nat} {k':IntKind} {c:Int} {o:Op} {v u:Value}
theorem nsbe (he:(a + 18446744073709551616 - b) % 18446744073709551616 = r) (k:TO E n X s ops rest ((d,Un r) :: fr) A) (hx:ev fr x = some (Un a):=by first | with_reducible exact ev_lit _ | rfl) (hy:ev fr y = some (Un b):=by first | with_reducible exact ev_lit _ | rfl) (hb:b < 18446744073709551616:=by omega) (hd:Nat.blt d n.n = true:=by rfl):TO E n X s ops (⟨some d,.binOp .sub t x y t',ty,pos,after,none⟩ :: rest) fr A:=nsbm (by rw [he];exact k) hx hy hb hd
theorem nmle (he:a * b % 18446744073709551616 = r) (k:TO E n X s ops rest ((d,Un r) :: fr) A) (hx:ev fr x = some (Un a):=by first | with_reducible exact ev_lit _ | rfl) (hy:ev fr y = some (Un b):=by first | with_reducible exact ev_lit _ | rfl) (hd:Nat.blt d n.n = true:=by rfl):TO E n X s ops (⟨some d,.binOp .mul t x y t',ty,pos,after,none⟩ :: rest) fr A:=nmlm (by rw [he];exact k) hx hy hd
theorem nore (he:a ||| b = r) (k:TO E n X s ops rest ((d,Un r) :: fr) A) (hx:ev fr x = some (Un a):=by first | with_reducible exact ev_lit _ | rfl) (hy:ev fr y = some (Un b):=by first | with_reducible exact ev_lit _ | rfl) (ha:a < 18446744073709551616:=by omega) (hb:b < 18446744073709551616:=by omega) (hd:Nat.blt d n.n = true:=by rfl):TO E n X s ops (⟨some d,.binOp .or t x y t',ty,pos,after,none⟩ :: rest) fr A:=nor (by rw [he];exact k) hx hy ha hb hd
theorem nsle (he:a * 2 ^ (min c.toNat 64) % 18446744073709551616 = r) (k:TO E n X s ops rest ((d,Un r) :: fr) A) (hx:ev fr x = some (Un a):=by first | with_reducible exact ev_lit _ | rfl) (hy:ev fr y = some (.int k' c):=by rfl) (hc:0 ≤ c:=by omega) (hd:Nat.blt d n.n = true:=by rfl):TO E n X s ops (⟨some d,.binOp .shl t x y t',ty,pos,after,none⟩ :: rest) fr A:=nsl (by rw [he];exact k) hx hy hc hd
theorem nsre (he:a / 2 ^ (min c.toNat 64) = r) (k:TO E n X s ops rest ((d,Un r) :: fr) A) (hx:ev fr x = some (Un a):=by first | with_reducible exact ev_lit _ | rfl) (hy:ev fr y = some (.int k' c):=by rfl) (hc:0 ≤ c:=by omega) (hd:Nat.blt d n.n = true:=by rfl):TO E n X s ops (⟨some d,.binOp .shr t x y t',ty,pos,after,none⟩ :: rest) fr A:=nsr (by rw [he];exact k) hx hy hc hd
theorem nmke (he:a % 4294967296 = r) (k:TO E n X s ops rest ((d,Un r) :: fr) A) (hx:ev fr x = some (Un a):=by first | with_reducible exact ev_lit _ | rfl) (hy:ev fr y = some (Un 4294967295):=by rfl) (ha:a < 18446744073709551616:=by omega) (hd:Nat.blt d n.n = true:=by rfl):TO E n X s ops (⟨some d,.binOp .and t x y t',ty,pos,after,none⟩ :: rest) fr A:=nmk (by rw [he];exact k) hx hy ha hd
theorem nque (he:a / b = r) (k:TO E n X s ops rest ((d,Un r) :: fr) A) (hx:ev fr x = some (Un a):=by first | with_reducible exact ev_lit _ | rfl) (hy:ev fr y = some (Un b):=by first | with_reducible exact ev_lit _ | rfl) (h:b ≠ 0:=by omega) (ha:a < 18446744073709551616:=by omega) (hd:Nat.blt d n.n = true:=by rfl):TO E n X s ops (⟨some d,.binOp .quo t x y t',ty,pos,after,none⟩ :: rest) fr A:=nqu (by rw [he];exact k) hx hy h ha hd
end
theorem or_add {a b k:Nat} (hb:b < 2 ^ k):2 ^ k * a ||| b = 2 ^ k * a + b:=(Nat.two_pow_add_eq_or_of_lt hb a).symm
/-! gates: words alone -/
section
variable {P:Program} {E:Env P} {n:Sh} {X:Cx} {s:List K} {fr:Fr} {A:List Ch} {ops:Array Oper} {rest:List Oper} {d:Nat} {ty t':TypeId} {pos:String} {after:Array Edge} {x y:Operand} {op:BinOp}
theorem nao (h:TO E n X s ops (⟨some d,.binOp op 145 x y t',ty,pos,after,none⟩ :: rest) fr A):TO E n X s ops (⟨some d,.binOp op 145 x y t',ty,pos,after,none⟩ :: rest) fr A:=h
theorem naou (h:TO E n X s ops (⟨some d,.binOp op 230 x y t',ty,pos,after,none⟩ :: rest) fr A):TO E n X s ops (⟨some d,.binOp op 230 x y t',ty,pos,after,none⟩ :: rest) fr A:=h
theorem qnao (h:TQ E n X s ops (⟨some d,.binOp op 145 x y t',ty,pos,after,none⟩ :: rest) fr A):TQ E n X s ops (⟨some d,.binOp op 145 x y t',ty,pos,after,none⟩ :: rest) fr A:=h
end
/-! the library's functions of bits -/
def add64 (a b c:Nat):Value:=.tuple #[Un ((a + b + c) % 18446744073709551616),Un ((a + b + c) / 18446744073709551616)]
def sub64 (a b c:Nat):Value:=.tuple #[Un ((a + 18446744073709551616 - b - c) % 18446744073709551616),Un (if a < b + c then 1 else 0)]
theorem call_add64 (a b c:Nat) (hc:c ≤ 1) (w:World):(callFunc 274 #[Un a,Un b,Un c]).run Tryz.prog w = .ok (.value (add64 a b c)) w:=by
 rw [run_callFunc_extern Tryz.func274 (by kernel_rfl) (by kernel_rfl) (by kernel_rfl) (e:=add64Entry) (by kernel_rfl),run_add64 a b c (by omega) (by omega) (by omega) (by omega)]
 simp only [Result.andThen,add64]
 congr 5 <;> omega
theorem call_sub64 (a b c:Nat) (hc:c ≤ 1) (w:World):(callFunc 276 #[Un a,Un b,Un c]).run Tryz.prog w = .ok (.value (sub64 a b c)) w:=by
 rw [run_callFunc_extern Tryz.func276 (by kernel_rfl) (by kernel_rfl) (by kernel_rfl) (e:=sub64Entry) (by kernel_rfl),run_sub64 a b c hc]
 rfl
theorem Tr.of_calls {P:Program} {f:FuncId} {args:List Value} {v:Value} (hc:Callable P f) (h:∀ w,Calls P f args.toArray w fun e w'=>e = .returned v∧w' = w):Tr P f args [] [] fun u D=>u = v∧D = []:=
 ⟨fun w _=>⟨hc,(h w).mono fun e w' ⟨he,hw⟩=>⟨v,he,by subst hw;exact ⟨[],⟨rfl,rfl⟩,Sat.nil _,Mv.refl _ _,fun _ h=>nomatch h⟩⟩⟩,fun _ h=>nomatch h⟩
def mul64 (a b:Nat):Value:=.tuple #[Un (a * b / 18446744073709551616),Un (a * b % 18446744073709551616)]
theorem Mul64_tr (a b:Nat) (ha:a < 18446744073709551616) (hb:b < 18446744073709551616):Tr Tryz.prog 287 [Un a,Un b] [] [] fun v D=>v = mul64 a b∧D = []:=
 Tr.of_calls ⟨_,Tryz.func287,rfl,rfl⟩ fun w=>Any.bits_Mul64 laysMul a b ha hb w
theorem Len64_tr (a:Nat) (ha:a < 18446744073709551616):Tr Tryz.prog 186 [Un a] [] [] fun v D=>v = I (Lib.bitLen a)∧D = []:=
 Tr.of_calls ⟨_,Tryz.func186,rfl,rfl⟩ fun w=>by have:=Any.bits_Len64 laysLen a w (by omega) (by omega);rwa [Int.toNat_natCast] at this
theorem LZ64_tr (a:Nat) (ha:a < 18446744073709551616):Tr Tryz.prog 252 [Un a] [] [] fun v D=>v = I (64 - (Lib.bitLen a:Int))∧D = []:=
 Tr.of_calls ⟨_,Tryz.func252,rfl,rfl⟩ fun w=>by have:=Any.bits_LeadingZeros64 laysLz a w (by omega) (by omega);rwa [Int.toNat_natCast] at this
section
variable {E:Env Tryz.prog} {n:Sh} {X:Cx} {s:List K} {fr:Fr} {A:List Ch} {ops:Array Oper} {rest:List Oper} {d:Nat} {ty:TypeId} {pos:String} {after:Array Edge} {xs:List Operand} {ats:Array TypeId} {a b c:Nat}
theorem cadd (hc:c ≤ 1) (k:TO E n X s ops rest ((d,add64 a b c) :: fr) A) (hv:evs fr xs = some [Un a,Un b,Un c]:=by rfl) (hd:Nat.blt d n.n = true:=by rfl):TO E n X s ops (⟨some d,.call ⟨.value (.func 274),xs.toArray,ats⟩,ty,pos,after,none⟩ :: rest) fr A:=cx (call_add64 a b c hc) k hv hd
theorem csub (hc:c ≤ 1) (k:TO E n X s ops rest ((d,sub64 a b c) :: fr) A) (hv:evs fr xs = some [Un a,Un b,Un c]:=by rfl) (hd:Nat.blt d n.n = true:=by rfl):TO E n X s ops (⟨some d,.call ⟨.value (.func 276),xs.toArray,ats⟩,ty,pos,after,none⟩ :: rest) fr A:=cx (call_sub64 a b c hc) k hv hd
end
end Go.Art
