/- Texts put together: Fz Sa Sc He Hi Ha Hb Hc Po Tk Ta Nw Ln Lo Ac. Conditions: none. -/
import Derived.Test.YtmdpconhbmkokaaGreatWUe
set_option linter.unusedSimpArgs false
set_option linter.unusedVariables false
namespace Go.Art
open Go Go.Proofs Go.RowKit
def frz (C:List Ch):Ch where
 wr:=fun _=>False
 rd:=fun b=>fts C b
 bd:=fun _=>False
 P:=fun w=>∀ c ∈ C,c.P w
 loc:=fun h hb c hc=>c.loc (h c hc) fun b hf=>hb b (.inr (.inl ⟨c,hc,hf⟩))
 lt:=fun h hb=>by
  rcases hb with hb | ⟨c,hc,hf⟩ | hb
  ·exact hb.elim
  ·exact c.lt (h c hc) hf
  ·exact hb.elim
instance (C:List Ch):NoB (frz C):=⟨fun _ h=>h⟩
theorem im_frz (C:List Ch) (hn:∀ c ∈ C,∀ b,¬ c.bd b) (F:List Ch):Im (C ++ F) (frz C :: F):=by
 refine ⟨fun w hw=>?_,fun b hb=>?_,fun b hb=>?_,fun b hb=>?_⟩
 ·obtain ⟨h1,h2,h3⟩:=Sat.app.1 hw
  refine Sat.cons.2 ⟨fun c hc=>h1.h c hc,fun a ha=>⟨fun b hb=>hb.elim,fun b hb hf=>?_⟩,h2⟩
  rcases hf with hf | ⟨c,hc,hf⟩ | hf
  ·exact hf.elim
  ·exact (h3 c hc a ha).2 b hb hf
  ·exact hf.elim
 ·obtain ⟨x,hx,hb⟩:=hb
  rcases List.mem_cons.1 hx with rfl | hx
  ·exact hb.elim
  ·exact ⟨x,List.mem_append_right _ hx,hb⟩
 ·obtain ⟨x,hx,hb⟩:=hb
  rcases List.mem_cons.1 hx with rfl | hx
  ·obtain ⟨c,hc,hf⟩:=hb
   rcases hf with hf | hf | hf
   ·exact .inl ⟨c,List.mem_append_left _ hc,hf⟩
   ·exact .inr ⟨c,List.mem_append_left _ hc,hf⟩
   ·exact absurd hf (hn c hc b)
  ·exact .inr ⟨x,List.mem_append_right _ hx,hb⟩
 ·obtain ⟨x,hx,hb⟩:=hb
  rcases List.mem_cons.1 hx with rfl | hx
  ·rcases hb with hb | ⟨c,hc,hf⟩ | hb
   ·exact hb.elim
   ·exact ⟨c,List.mem_append_left _ hc,hf⟩
   ·exact hb.elim
  ·exact ⟨x,List.mem_append_right _ hx,hb⟩
theorem frz_app (C D:List Ch) (F:List Ch):Im (frz C :: frz D :: F) (frz (C ++ D) :: F):=by
 have hft:∀ b,fts (C ++ D) b→fts C b∨fts D b:=fun b ⟨c,hc,hf⟩=>by
  rcases List.mem_append.1 hc with hc | hc
  ·exact .inl ⟨c,hc,hf⟩
  ·exact .inr ⟨c,hc,hf⟩
 refine ⟨fun w hw=>?_,fun b hb=>?_,fun b hb=>?_,fun b hb=>?_⟩
 ·obtain ⟨h1,h2,h3⟩:=Sat.cons.1 hw
  obtain ⟨k1,k2,k3⟩:=Sat.cons.1 h3
  refine Sat.cons.2 ⟨fun c hc=>?_,fun a ha=>⟨fun b hb=>hb.elim,fun b hb hf=>?_⟩,k3⟩
  ·rcases List.mem_append.1 hc with hc | hc
   ·exact h1 c hc
   ·exact k1 c hc
  ·rcases hf with hf | hf | hf
   ·exact hf.elim
   ·rcases hft b hf with hf | hf
    ·exact (h2 a (List.mem_cons_of_mem _ ha)).2 b hb (.inr (.inl hf))
    ·exact (k2 a ha).2 b hb (.inr (.inl hf))
   ·exact hf.elim
 ·obtain ⟨x,hx,hb⟩:=hb
  rcases List.mem_cons.1 hx with rfl | hx
  ·exact hb.elim
  ·exact ⟨x,by simp [hx],hb⟩
 ·obtain ⟨x,hx,hb⟩:=hb
  rcases List.mem_cons.1 hx with rfl | hx
  ·rcases hft b hb with hf | hf
   ·exact .inr ⟨frz C,by simp,hf⟩
   ·exact .inr ⟨frz D,by simp,hf⟩
  ·exact .inr ⟨x,by simp [hx],hb⟩
 ·obtain ⟨x,hx,hb⟩:=hb
  rcases List.mem_cons.1 hx with rfl | hx
  ·rcases hb with hb | hb | hb
   ·exact hb.elim
   ·rcases hft b hb with hf | hf
    ·exact ⟨frz C,by simp,.inr (.inl hf)⟩
    ·exact ⟨frz D,by simp,.inr (.inl hf)⟩
   ·exact hb.elim
  ·exact ⟨x,by simp [hx],hb⟩
theorem frz_nil (A:List Ch):Im A (frz [] :: A):=by
 have:=im_frz [] (by simp) A
 simpa using this
theorem has_frz {F C:List Ch} {c d:Ch} (h:frz C ∈ F) (hd:d ∈ C) (hc:Has [d] c):Has F c:=
 ⟨fun w hw=>hc.P w (Sat.one (hw.h _ h d hd)),hc.wr,hc.rd,fun b hb=>by
  obtain ⟨x,hx,hf⟩:=hc.ft b hb
  obtain rfl:x = d:=by simpa using hx
  exact ⟨_,h,.inr (.inl ⟨x,hd,hf⟩)⟩⟩
theorem prs_at {A:List Ch} {w:World} {e:TypeId} {v:Value} {L:List (Value × Value)} (h:prs e v L ∈ A) (hw:Sat A w):OwnW w e v L:=hw.h (prs e v L) h
theorem OwnW.form {w:World} {e:TypeId} {v:Value} {L:List (Value × Value)} (h:OwnW w e v L) (hn:0 < L.length):∃ b c,v = .slice (some ⟨b,0,none⟩) L.length c:=by
 rcases h with ⟨_,rfl⟩ | ⟨b,cap,_,rfl,_⟩
 ·simp at hn
 ·exact ⟨b,cap,rfl⟩
theorem OwnW.cell {w:World} {e:TypeId} {b c j:Nat} {u:Value} {L:List (Value × Value)} (h:OwnW w e (.slice (some ⟨b,0,none⟩) L.length c) L) (hj:(pc L)[j]? = some u):w.cell? ⟨b,j,none⟩ = some u:=by
 rcases h with ⟨h,_⟩ | ⟨b',cap,cur,e1,hb,h2,h3,h4,h5⟩
 ·cases h
 ·cases e1
  rw [cell_of_row w b j cur e (0,0) hb]
  rw [← h5,List.getElem?_take] at hj
  split at hj
  ·simpa using hj
  ·cases hj
section
variable {P:Program} {E:Env P} {n:Sh} {X:Cx} {s:List K} {fr:Fr} {A A':List Ch} {ops:Array Oper} {rest:List Oper} {d b c i j:Nat} {ty t e:TypeId} {pos:String} {after:Array Edge} {v u z:Value} {x y:Operand} {by_:Nat} {L:List (Value × Value)} {w:World} {k1:IntKind} {dt:TypeDesc}
theorem lnp (k:TO E n X s ops rest ((d,I L.length) :: fr) A) (hx:ev fr x = some v:=by rfl) (hm:prs e v L ∈ A:=by exact memA) (ht:lk E.und t = some (.slice e):=by rfl) (hd:Nat.blt d n.n = true:=by rfl) :
  TO E n X s ops (⟨some d,.call ⟨.builtin .len,#[x],#[t]⟩,ty,pos,after,none⟩ :: rest) fr A:=TO.val (v:=I L.length) (fun w h=>⟨fun a ha _ _ _ _=>by
 simp only [execOp,resolve]
 rcases prs_at hm h with ⟨rfl,rfl⟩ | ⟨b,cap,cur,rfl,_⟩ <;> simp [ha.ev hx,invoke,builtin,Builtin.len_,run_underlying (P:=P) (E.un ht) w,goInt]⟩) k hd
theorem ixp {m:Nat} {i:Int} (k:TO E n X s ops rest ((d,.pointer (some ⟨b,2 * i.toNat,none⟩)) :: fr) A) (hx:ev fr x = some (.slice (some ⟨b,0,none⟩) m c):=by rfl) (hy:ev fr y = some (.int k1 i):=by rfl) (hb:0 ≤ i∧i < m:=by omega)
  (ht:lk E.und t = some (.slice e):=by rfl) (he:lk E.inf e = some (z,2,by_):=by rfl) (hd:Nat.blt d n.n = true:=by rfl):TO E n X s ops (⟨some d,.indexAddr t x y,ty,pos,after,none⟩ :: rest) fr A:=
 TO.val (fun w _=>⟨fun a ha _ _ _ _=>by
  obtain ⟨inf,hi,_,hsz,_⟩:=E.info he
  simp only [execOp,ha.ev hx,ha.ev hy]
  simp [Instr.indexAt,asIntOf,run_underlying (P:=P) (E.un ht) w,hb,sizeOf,typeInfo,hi,hsz,Addr.add_lit,Nat.mul_comm]⟩) k hd
theorem ldp (k:TO E n X s ops rest ((d,u) :: fr) A) (hx:ev fr x = some (.pointer (some ⟨b,j,none⟩)):=by rfl) (hm:prs e (.slice (some ⟨b,0,none⟩) L.length c) L ∈ A:=by exact memA) (hj:(pc L)[j]? = some u) (ht:lk E.und t = some dt:=by rfl) (hg:aggB dt = false:=by rfl) (hd:Nat.blt d n.n = true:=by rfl) :
  TO E n X s ops (⟨some d,.load t x,ty,pos,after,none⟩ :: rest) fr A:=TO.val (fun w h=>R_load ht hg hx ((prs_at hm h).cell hj)) k hd
theorem srp {p:Value × Value} (k:TO E n X s ops rest fr (prs e v (L.set i (p.1,u)) :: A')) (hv:v = .slice (some ⟨b,0,none⟩) L.length c) (hj:j = 2 * i + 1) (hx:ev fr x = some (.pointer (some ⟨b,j,none⟩)):=by rfl) (hy:ev fr y = some u:=by rfl) (hm:Tk (prs e v L) A A':=by exact tkA) (hp:L[i]? = some p)
  (hc:u.oneCell' = true:=by first | rfl | assumption) (ht:lk E.inf t = some (z,1,by_):=by rfl):TO E n X s ops (⟨none,.store t x y,ty,pos,after,none⟩ :: rest) fr A:=⟨fun w hw=>by
 subst hv;subst hj
 have h1:=hw.im hm
 have h2:OwnW w e (.slice (some ⟨b,0,none⟩) L.length c) L:=h1.mem (List.Mem.head _)
 rcases h2 with ⟨h2,_⟩ | ⟨b',cap,cur,e1,hb,g2,g3,g4,g5⟩
 ·cases h2
 ·cases e1
  have hi:i < L.length:=(List.getElem?_eq_some_iff.1 hp).1
  refine SO_store ht hx hy hc hb (lt_nblt (by omega)) fun w' hU hH=>k.run w' (h1.set hU (fun b2 hb=>.inl (by show some _ = some _;rw [List.mem_singleton.1 hb])) (.inr ⟨b,c,_,by simp,hH,by simpa using g2,g3,by simpa using g4,?_⟩) ?_ (fun _ h=>h))
  ·rw [List.length_set,Array.toList_setIfInBounds,List.take_set,g5,pc_set1 _ _ _ _ hp]
  ·rintro b (hb | hb | hb);exact .inl hb;exact hb.elim;exact hb.elim⟩
end
end Go.Art
set_option maxRecDepth 2000
namespace Go.Art.Sn
open Go Go.Proofs Go.RowKit Go.Art
section
variable {P:Program} {E:Env P} {n:Sh} {X:Cx} {s:List K} {fr:Fr} {A A':List Ch} {ops:Array Oper} {rest:List Oper} {d:Nat} {ty t t' el:TypeId} {pos:String} {after:Array Edge} {x:Operand} {w:World} {q:Option Nat} {kd:ChanDir}
theorem run_equalIn_chan (d:Nat) (h1:(underlying t).run P w = .ok (TypeDesc.chan kd el) w):(Op.equalIn (d + 1) t (.chan q) (.chan none)).run P w = .ok q.isNone w:=by
 cases q <;> simp [Op.equalIn,h1]
theorem R_chNil (ht:lk E.und t = some (.chan kd el)) (hx:ev fr x = some (.chan q)):OpV P n fr (.binOp .eql t x (.const (.chan none)) t') ty w (.bool q.isNone) w:=⟨fun a ha _ _ _ _=>by
 have hg:(eqGuard .eql t x (.const (.chan none)) (.chan q) (.chan none)).run P w = .ok () w:=rfl
 have h1:=run_underlying (P:=P) (E.un ht) w
 have h3:(Op.equal t (.chan q) (.chan none)).run P w = .ok q.isNone w:=run_equalIn_chan 9999 h1
 simp only [execOp,ha.ev hx]
 simp [Act.eval,hg,binOp,h3]⟩
theorem chq (k:TO E n X s ops rest ((d,.bool q.isNone) :: fr) A) (hx:ev fr x = some (.chan q):=by rfl) (ht:lk E.und t = some (.chan kd el):=by rfl) (hd:Nat.blt d n.n = true:=by rfl):TO E n X s ops (⟨some d,.binOp .eql t x (.const (.chan none)) t',ty,pos,after,none⟩ :: rest) fr A:=TO.val (fun _ _=>R_chNil ht hx) k hd
end
attribute [local irreducible] Fit pt own ro vw mpc lpt vels rels mow lrc dfr
attribute [local irreducible] lmp lme mit velg relg
abbrev TSn:TypeId:=61
structure SnS where
 ses:Int
 bud:Int
 tmo:Int
 opn:Value
 pts:Value
 ack:Value
 last:Int
 sil:Int
 st:Int
 c:Nat
def SnS.cells (s:SnS):List Value:=[I s.ses,I s.bud,I s.tmo,s.opn,s.pts,s.ack,I s.last,I s.sil,I s.st,chv s.c]
theorem none_tr (p:Nat) (ses bud tmo last sil st:Int) (opn pts ack:Value) (c:Nat):Tr Tryz.prog 44 [ptr p] [lpt p [I ses,I bud,I tmo,opn,pts,ack,I last,I sil,I st,chv c] TSn] [] fun v D=>v = .bool false∧D = []:=by
 refine Tr.enter env _ Tryz.func44 (by kernel_rfl) rfl Tryz.ntmps44 rfl (by repeat (first | exact has00 | refine has01 ?_)) fun w0=>?_
 repeat' first|refine chq ?_|(refine wo ?_;first|(refine ao ?_;first|refine ipe ?_)|refine oa ?_|refine ldl ?_|refine gy ?_)|refine sq ?_|refine rg ?_|refine xc ?_|refine nl ?_|refine rt ?_
 exact r1 ⟨rfl,rfl⟩
theorem sends_tr (p:Nat) (ses bud tmo last sil st:Int) (opn pts ack:Value) (c:Nat) (bs:List Value) (h1:∀ v ∈ bs,v.oneCell' = true) (hl:bs.length ≤ 4) :
  Tr Tryz.prog 66 [ptr p] [] [pt p [I ses,I bud,I tmo,opn,pts,ack,I last,I sil,I st,chv c] TSn,chp c 4 bs] fun v D=>v.oneCell' = true∧D = [pt p [I ses,I bud,I tmo,opn,pts,ack,I last,I sil,I st,chv c] TSn,chp c 4 [],own TyV v bs]:=by
 refine Tr.enter env _ Tryz.func66 (by kernel_rfl) rfl Tryz.ntmps66 rfl (by repeat (first | exact has00 | refine has01 ?_)) fun w0=>?_
 repeat' first|(refine wo ?_;first|refine oa ?_)|refine sq ?_|refine rg ?_|refine xc ?_|refine nl ?_|refine bk ?_
 refine TC.im (own_nil TyV _) ?_
 refine TC.loop (ι:=Nat × Value) (fun g=>[(2,g.2)]) (fun g=>[pt p [I ses,I bud,I tmo,opn,pts,ack,I last,I sil,I st,chv c] TSn,chp c 4 (bs.drop g.1),own TyV g.2 (bs.take g.1)]) (fun g=>g.1 ≤ bs.length∧g.2.oneCell' = true) (fun g=>bs.length - g.1) (0,nS) [0] ⟨Nat.zero_le _,rfl⟩ ?_ (hf:=by dsimp only;rw [List.drop_zero,List.take_zero];exact fitA)
 rintro ⟨k,o⟩ ⟨hk,ho⟩
 dsimp only at hk ho ⊢
 by_cases hlt:k < bs.length
 ·rw [List.drop_eq_getElem_cons hlt]
  have hone:=h1 _ (List.getElem_mem hlt)
  have htl:(bs.take k).length = k:=by rw [List.length_take];omega
  have hts:bs.take k ++ [bs[k]] = bs.take (k + 1):=(List.take_succ_eq_append_getElem hlt).symm
  generalize bs[k] = u at *
  generalize bs.take k = tk0 at *
  repeat' first|(refine tmr ?_;refine tmsr ?_;refine tma ?_;refine tma ?_;refine tm0 ?_)|refine sli (vs:=[u]) (fun v1=>?_) (h1:=one_cons hone one_nil)|(refine ap (xs:=tk0) (news:=[u]) (fun o2=>?_) (h1:=one_cons hone one_nil);refine TO.one (v:=o2) (xs:=tk0 ++ [u]) fun ho2=>?_)|(refine wo ?_;first|refine oa ?_|refine ld ?_)|(refine gc ?_;first|refine ct ?_)|refine sq ?_|refine rg ?_|refine xc ?_|refine nl ?_|refine bk ?_|refine xb ?_
  rw [hts]
  exact lp (k + 1,o2) ⟨hlt,ho2⟩ (by dsimp only;omega) (hs:=by (repeat (refine Sub.cons rfl (by first | rfl | go_num) ?_));exact Sub.nil) (hf:=by dsimp only;exact fitA)
 ·obtain rfl:k = bs.length:=by omega
  rw [List.drop_length,List.take_length]
  repeat' first|(refine tmr ?_;refine tmsd ?_;refine tma ?_;refine tma ?_;refine tm0 ?_)|(refine wo ?_;first|refine oa ?_|refine ld ?_)|(refine gc ?_;first|refine cf ?_)|refine sq ?_|refine rg ?_|refine xc ?_|refine nl ?_|refine bk ?_|refine rt ?_
  exact r1 ⟨ho,rfl⟩
theorem says_tr (p:Nat) (ses bud tmo last sil st:Int) (opn pts ack:Value) (c:Nat) (kd sn bn pn rn:Int) (dv:Value) (l:List Int) (hd:dv.oneCell' = true) :
  Tr Tryz.prog 64 [ptr p,.agg #[I kd,I sn,I bn,I pn,I rn,dv]] [vw dv (By l)] [pt p [I ses,I bud,I tmo,opn,pts,ack,I last,I sil,I st,chv c] TSn,chp c 4 []]
   fun _ D=>∃ o,o.oneCell' = true∧D = [pt p [I ses,I bud,I tmo,opn,pts,ack,I last,I sil,I st,chv c] TSn,chp c 4 [o],own TyB o (By (putR kd ses bn pn rn l).1)]:=by
 refine Tr.enter env _ Tryz.func64 (by kernel_rfl) rfl Tryz.ntmps64 rfl (by repeat (first | exact has00 | refine has01 ?_)) fun w0=>?_
 repeat' first|(refine gca ?_;first|(refine ca (PPut_tr kd ses bn pn rn dv l hd) ?_;rintro _ _ ⟨o,rfl,ho,rfl⟩))|(refine tmr ?_;refine tma ?_;refine tma ?_;refine tma ?_;refine tml (cs:=[I ses,I bud,I tmo,opn,pts,ack,I last,I sil,I st,chv c]) ?_;refine tma ?_;refine tms ?_;refine tm0 ?_)|refine bx fun b=>?_|refine lda ?_|(refine wo ?_;first|refine oa ?_|refine ld ?_|refine sr ?_)|refine sq ?_|refine rg ?_|refine xc ?_|refine nl ?_
 exact e0 ⟨o,ho,rfl⟩
theorem alive_tr (p:Nat) (x0 x1 x2 x3 x4 x5 x6 x7 x9:Value) (st:Int):Tr Tryz.prog 61 [ptr p] [lpt p [x0,x1,x2,x3,x4,x5,x6,x7,I st,x9] TSn] [] fun v D=>v = .bool (decide (st = 1) || decide (st = 2))∧D = []:=by
 by_cases h:st = 1
 ·rw [decide_eq_true h]
  refine Tr.enter env _ Tryz.func61 (by kernel_rfl) rfl Tryz.ntmps61 rfl (by repeat (first | exact has00 | refine has01 ?_)) fun w0=>?_
  repeat' first|(refine wo ?_;first|(refine ao ?_;first|refine oa ?_)|refine oa ?_|refine ldl ?_|refine gn ?_|(refine gsi (fun hB=>?_) (fun hB=>?_) <;> try (exfalso;omega)))|refine sq ?_|refine rg ?_|refine xc ?_|refine nl ?_|refine rt ?_
  exact r1 ⟨rfl,rfl⟩
 ·rw [decide_eq_false h]
  refine Tr.enter env _ Tryz.func61 (by kernel_rfl) rfl Tryz.ntmps61 rfl (by repeat (first | exact has00 | refine has01 ?_)) fun w0=>?_
  repeat' first|(refine wo ?_;first|(refine ao ?_;first|refine oa ?_)|refine oa ?_|refine ldl ?_|refine gy ?_|(refine gsi (fun hB=>?_) (fun hB=>?_) <;> try (exfalso;omega)))|refine sq ?_|refine rg ?_|refine xc ?_|refine nl ?_|refine rt ?_
  exact r1 ⟨rfl,rfl⟩
theorem State_tr (p:Nat) (ses bud tmo last sil st:Int) (opn pts ack:Value) (c:Nat):Tr Tryz.prog 37 [ptr p] [lpt p [I ses,I bud,I tmo,opn,pts,ack,I last,I sil,I st,chv c] TSn] [] fun v D=>v = I st∧D = []:=by
 refine Tr.enter env _ Tryz.func37 (by kernel_rfl) rfl Tryz.ntmps37 rfl (by repeat (first | exact has00 | refine has01 ?_)) fun w0=>?_
 repeat' first|(refine gca ?_;first|(refine ca (none_tr p ses bud tmo last sil st opn pts ack c) ?_;rintro _ _ ⟨rfl,rfl⟩))|(refine wo ?_;first|refine oa ?_|refine ldl ?_)|(refine gc ?_;first|refine cf ?_)|refine sq ?_|refine rg ?_|refine xc ?_|refine nl ?_|refine sk ?_|refine rt ?_
 exact r1 ⟨rfl,rfl⟩
theorem Left_tr (p:Nat) (ses bud tmo last sil st:Int) (opn pts ack:Value) (c:Nat):Tr Tryz.prog 18 [ptr p] [lpt p [I ses,I bud,I tmo,opn,pts,ack,I last,I sil,I st,chv c] TSn] [] fun v D=>v = I bud∧D = []:=by
 refine Tr.enter env _ Tryz.func18 (by kernel_rfl) rfl Tryz.ntmps18 rfl (by repeat (first | exact has00 | refine has01 ?_)) fun w0=>?_
 repeat' first|(refine gca ?_;first|(refine ca (none_tr p ses bud tmo last sil st opn pts ack c) ?_;rintro _ _ ⟨rfl,rfl⟩))|(refine wo ?_;first|refine oa ?_|refine ldl ?_)|(refine gc ?_;first|refine cf ?_)|refine sq ?_|refine rg ?_|refine xc ?_|refine nl ?_|refine sk ?_|refine rt ?_
 exact r1 ⟨rfl,rfl⟩
end Go.Art.Sn
set_option maxRecDepth 2000
namespace Go.Art.Sn
open Go Go.Proofs Go.RowKit Go.Art
attribute [local irreducible] Fit pt own ro vw mpc lpt vels rels mow lrc dfr
attribute [local irreducible] lmp lme mit velg relg
theorem abort_tr (p:Nat) (ses bud tmo last sil st:Int) (opn pts ack:Value) (c:Nat):Tr Tryz.prog 63 [ptr p] [] [pt p [I ses,I bud,I tmo,opn,pts,ack,I last,I sil,I st,chv c] TSn,chp c 4 []]
  fun _ D=>∃ o,o.oneCell' = true∧D = [pt p [I ses,I bud,I tmo,opn,pts,ack,I last,I sil,I st,chv c] TSn,chp c 4 [o],own TyB o (By (putR 4 ses 0 0 (if st = 4 then 1 else 2) []).1)]:=by
 by_cases h:st = 4
 ·rw [if_pos h]
  refine Tr.enter env _ Tryz.func63 (by kernel_rfl) rfl Tryz.ntmps63 rfl (by repeat (first | exact has00 | refine has01 ?_)) fun w0=>?_
  repeat' first|(refine gca ?_;first|(refine ca (says_tr p ses bud tmo last sil st opn pts ack c 4 0 0 0 1 nS [] rfl) ?_;rintro _ _ ⟨o,ho,rfl⟩))|refine bdz ?_|(refine wo ?_;first|(refine ao ?_;first|refine oa ?_)|refine oa ?_|refine ld ?_)|(refine gc ?_;first|(refine ci (fun hB=>?_) (fun hB=>?_) <;> try (exfalso;omega)))|refine sq ?_|refine rg ?_|refine xc ?_|refine nl ?_
  exact e0 ⟨o,ho,rfl⟩
 ·rw [if_neg h]
  refine Tr.enter env _ Tryz.func63 (by kernel_rfl) rfl Tryz.ntmps63 rfl (by repeat (first | exact has00 | refine has01 ?_)) fun w0=>?_
  repeat' first|(refine gca ?_;first|(refine ca (says_tr p ses bud tmo last sil st opn pts ack c 4 0 0 0 2 nS [] rfl) ?_;rintro _ _ ⟨o,ho,rfl⟩))|refine bdz ?_|(refine wo ?_;first|(refine ao ?_;first|refine oa ?_)|refine oa ?_|refine ld ?_)|(refine gc ?_;first|(refine ci (fun hB=>?_) (fun hB=>?_) <;> try (exfalso;omega)))|refine sq ?_|refine rg ?_|refine xc ?_|refine nl ?_|refine sk ?_
  exact e0 ⟨o,ho,rfl⟩
def ackN (l:List Bool):Nat→Nat
 | 0=>0
 | i + 1=>ackN l i + if l.getD i false then 1 else 0
theorem ackN_le (l:List Bool):∀ i,ackN l i ≤ i
 | 0=>Nat.le_refl _
 | i + 1=>by have:=ackN_le l i;unfold ackN;split <;> omega
theorem Acked_tr (p:Nat) (ses bud tmo last sil st:Int) (opn pts ack:Value) (c:Nat) (l:List Bool) (hl:l.length ≤ 1099511627776):Tr Tryz.prog 38 [ptr p] [lpt p [I ses,I bud,I tmo,opn,pts,ack,I last,I sil,I st,chv c] TSn,vw ack (Bo l)] [] fun v D=>v = I (ackN l l.length)∧D = []:=by
 have hbl:=Bo_len l
 refine Tr.enter env _ Tryz.func38 (by kernel_rfl) rfl Tryz.ntmps38 rfl (by repeat (first | exact has00 | refine has01 ?_)) fun w0=>?_
 repeat' first|(refine gca ?_;first|(refine ca (none_tr p ses bud tmo last sil st opn pts ack c) ?_;rintro _ _ ⟨rfl,rfl⟩))|(refine ln (xs:=Bo l) ?_;rw [hbl])|(refine wo ?_;first|refine oa ?_|refine ldl ?_)|(refine gc ?_;first|refine cf ?_)|refine sq ?_|refine rg ?_|refine xc ?_|refine nl ?_|refine sk ?_|refine bk ?_
 refine TC.loop (ι:=Nat) (fun i=>[(13,I i),(3,I (ackN l i))]) (fun _=>[]) (fun i=>i ≤ l.length) (fun i=>l.length - i) 0 [0,11,12] (Nat.zero_le _) ?_ (hf:=by exact fitA)
 intro i hi
 have hle:=ackN_le l i
 by_cases hlt:i < l.length
 ·have hs:ackN l (i + 1) = ackN l i + if l.getD i false then 1 else 0:=rfl
  cases hd:l.getD i false
  ·rw [hd,if_neg (by decide),Nat.add_zero] at hs
   repeat' first|(refine lbo (l:=l) ?_;rw [hd])|(refine wo ?_;first|(refine ao ?_;first|refine aw ?_|refine oa ?_)|refine oa ?_|refine ixmn ?_)|(refine gc ?_;first|refine cf ?_|(refine ci (fun hB=>?_) (fun hB=>?_) <;> try (exfalso;omega)))|refine sq ?_|refine rg ?_|refine xc ?_|refine nl ?_|refine sk ?_|refine bk ?_|refine xb ?_
   exact lp (i + 1) hlt (by omega) (hs:=by rw [hs];(repeat (refine Sub.cons rfl (by first | rfl | go_num) ?_));exact Sub.nil) (hf:=by exact fitA)
  ·rw [hd,if_pos rfl] at hs
   repeat' first|(refine lbo (l:=l) ?_;rw [hd])|(refine wo ?_;first|(refine ao ?_;first|refine aw ?_|refine oa ?_)|refine oa ?_|refine ixmn ?_)|(refine gc ?_;first|refine ct ?_|(refine ci (fun hB=>?_) (fun hB=>?_) <;> try (exfalso;omega)))|refine sq ?_|refine rg ?_|refine xc ?_|refine nl ?_|refine sk ?_|refine bk ?_|refine xb ?_
   exact lp (i + 1) hlt (by omega) (hs:=by rw [hs];(repeat (refine Sub.cons rfl (by first | rfl | go_num) ?_));exact Sub.nil) (hf:=by exact fitA)
 ·obtain rfl:i = l.length:=by omega
  repeat' first|(refine wo ?_;first|(refine ao ?_;first|refine oa ?_)|refine oa ?_)|(refine gc ?_;first|(refine ci (fun hB=>?_) (fun hB=>?_) <;> try (exfalso;omega)))|refine sq ?_|refine rg ?_|refine xc ?_|refine nl ?_|refine xe ?_|refine rt ?_
  exact r1 ⟨rfl,rfl⟩
abbrev TPt:TypeId:=71
abbrev srcV (b:Nat):Value:=.func (.func 25) #[ptr b] #[]
theorem data_tr (p:Nat) (ses bud tmo last sil st:Int) (opn pts ack:Value) (c:Nat) (L:List (Value × Value)) (C:List Ch) (blk:Nat) (sent:Int) (b:Nat) (cv ov sy:Value) (hs:List Value) (t:List Int) (seed:Int) (ls:List (List Int))
  (hE:newE t blk ls = 0) (hc:cv.oneCell' = true) (ho:ov.oneCell' = true) (hL:L[blk]? = some (srcV b,I sent)) (hC:∀ x ∈ encL b cv ov sy hs t seed blk ls,∃ d ∈ C,Has [d] x) (hsn:0 ≤ sent∧sent ≤ 1099511627776) (hbu:0 ≤ bud∧bud ≤ 1099511627776) :
  Tr Tryz.prog 65 [ptr p,I blk] [] [pt p [I ses,I bud,I tmo,opn,pts,ack,I last,I sil,I st,chv c] TSn,chp c 4 [],prs TPt pts L,frz C]
   fun _ D=>∃ o,o.oneCell' = true∧D = [pt p [I ses,I (bud - 1),I tmo,opn,pts,ack,I blk,I sil,I st,chv c] TSn,chp c 4 [o],prs TPt pts (L.set blk (srcV b,I (sent + 1))),frz C,own TyB o (By (putR 1 ses blk sent 0 (pktW t ls seed blk sent).1).1)]:=by
 have hbl:blk < L.length:=(List.getElem?_eq_some_iff.1 hL).1
 have g0:=pc_get0 L blk _ hL
 have g1:=pc_get1 L blk _ hL
 have hPk:=EPacket_tr b cv ov sy hs t seed blk ls sent hE hc ho
 generalize pktW t ls seed blk sent = PW at *
 refine Tr.enter env _ Tryz.func65 (by kernel_rfl) rfl Tryz.ntmps65 rfl (by repeat (first | exact has00 | refine has01 ?_)) fun w0=>?_
 refine TC.fact (p:=∃ g q,pts = .slice (some ⟨g,0,none⟩) L.length q) (fun w hw=>(prs_at (e:=TPt) (v:=pts) (L:=L) memA hw).form (by omega)) fun ⟨g,q,hpts⟩=>?_
 subst hpts
 repeat' first|(refine ixp ?_;rw [Int.toNat_natCast])|(refine wo ?_;first|refine oa ?_|refine ld ?_)|refine sq ?_|refine rg ?_|refine xc ?_|refine nl ?_
 replace g0:(pc L)[plus0 (2 * blk) 0]? = some (srcV b):=by rw [plus0_eq];exact g0
 replace g1:(pc L)[plus0 (2 * blk) 1]? = some (I sent):=by rw [plus0_eq];exact g1
 refine rs (fun w=>OwnW w TPt (.slice (some ⟨g,0,none⟩) L.length q) L) ?_ (fun w hw=>prs_at memA hw)
 refine tka 0 ?_
 refine tka 1 ?_
 refine tka 2 ?_
 refine tk 3 (v:=srcV b) (hi:=rfl) (fun w h=>by exact R_load (E:=env) rfl rfl rfl (h.cell g0)) ?_
 refine tka 4 ?_
 refine tka 5 ?_
 refine tka 6 ?_
 refine tk 7 (v:=I sent) (hi:=rfl) (fun w h=>by exact R_load (E:=env) rfl rfl rfl (h.cell g1)) ?_
 refine t1 8 ?_
 refine cam (B:=[]) (first:=#[ptr b]) (cap:=#[]) (vs:=[I sent]) (f:=25) hPk ?_ (hs:=Fit.nil) (hp:=fun x hx=>by obtain ⟨d,hd,h⟩:=hC x hx;exact has_frz memA hd h)
 rintro _ _ ⟨o2,rfl,ho2,rfl⟩
 refine nl ?_
 refine te (fun w hw=>prs_at memA hw) ?_
 refine tka 9 ?_
 refine tka 10 ?_
 refine tka 11 ?_
 refine tka 12 ?_
 refine tka 13 ?_
 refine t0 ?_
 repeat' first|(refine gca ?_;first|(refine ca (says_tr p ses bud tmo last sil st opn (.slice (some ⟨g,0,none⟩) L.length q) ack c 1 0 blk sent 0 o2 PW.1 ho2) ?_;rintro _ _ ⟨o,ho,rfl⟩))|(refine ldp ?_ (hj:=g1))|refine bdz ?_|refine srp ?_ rfl (plus0_eq _ _) (hp:=hL)|(refine wo ?_;first|(refine ao ?_;first|refine aw ?_)|refine oa ?_|refine ld ?_|refine sr ?_)|refine sq ?_|refine rg ?_|refine xc ?_|refine nl ?_
 exact e0 ⟨o,ho,rfl⟩
end Go.Art.Sn
namespace Go.Art
open Go Go.Proofs Go.RowKit Go.Art.Sn
theorem ackN_all {l:List Bool}:∀ {i:Nat},ackN l i = i ↔ ∀ j,j < i→l.getD j false = true
 | 0=>⟨fun _ j h=>absurd h (Nat.not_lt_zero j),fun _=>rfl⟩
 | i + 1=>by
  have ih:=ackN_all (l:=l) (i:=i)
  have hle:=ackN_le l i
  unfold ackN
  constructor
  ·intro h j hj
   have h1:l.getD i false = true:=by
    cases hd:l.getD i false with
    | true=>rfl
    | false=>rw [hd] at h;simp at h;omega
   rw [h1,if_pos rfl] at h
   by_cases e:j = i
   ·rw [e];exact h1
   ·exact ih.1 (by omega) j (by omega)
  ·intro h
   rw [ih.2 fun j hj=>h j (by omega),h i (by omega),if_pos rfl]
theorem turnG_all {d:List Bool} {b:Nat} (h:∀ j,j < d.length→d.getD j false = true) (hn:0 < d.length):∀ r i,turnG d b r i = none
 | 0,_=>rfl
 | r + 1,i=>by
  unfold turnG
  rw [turnA,h _ (Nat.mod_lt _ hn),if_pos rfl]
  exact turnG_all h hn r (i + 1)
theorem turnG_none {d:List Bool} {b:Nat}:∀ {r i:Nat},turnG d b r i = none→∀ k,i ≤ k→k < i + r→d.getD ((b + k) % d.length) false = true
 | 0,i,_,k,h1,h2=>by omega
 | r + 1,i,h,k,h1,h2=>by
  unfold turnG at h
  by_cases hd:d.getD (turnA d.length b i) false = true
  ·rw [if_pos hd] at h
   by_cases e:k = i
   ·rw [e];exact hd
   ·exact turnG_none h k (by omega) (by omega)
  ·rw [if_neg hd] at h;cases h
theorem turn_ack (d:List Bool) (last:Int):turnO d last = none ↔ ackN d d.length = d.length:=by
 rw [ackN_all]
 unfold turnO
 constructor
 ·intro h j hj
  have:=turnG_none h ((j + (d.length - turnB d.length last % d.length)) % d.length) (Nat.zero_le _) (by have:=Nat.mod_lt (j + (d.length - turnB d.length last % d.length)) (show 0 < d.length by omega);omega)
  rw [Nat.add_mod_mod] at this
  generalize turnB d.length last = b at *
  have e:(b + (j + (d.length - b % d.length))) % d.length = j:=by
   have h1:=Nat.mod_add_div b d.length
   have h2:=Nat.mod_lt b (show 0 < d.length by omega)
   have e2:b + (j + (d.length - b % d.length)) = j + d.length * (b / d.length + 1):=by
    rw [Nat.mul_add,Nat.mul_one];omega
   rw [e2,Nat.add_mul_mod_self_left,Nat.mod_eq_of_lt hj]
  rw [e] at this
  exact this
 ·intro h
  rcases Nat.eq_zero_or_pos d.length with h0 | h0
  ·rw [h0];rfl
  ·exact turnG_all h h0 _ _
def fillL (c:List Int) (S j:Nat):List Int:=c.take j ++ List.replicate (S - j) 0
theorem fillL_len {c:List Int} {S j:Nat} (h:j ≤ c.length) (hc:c.length ≤ S):(fillL c S j).length = S:=by
 unfold fillL;rw [List.length_append,List.length_take,List.length_replicate];omega
theorem fillL_zero (c:List Int) (S:Nat):fillL c S 0 = List.replicate S 0:=by unfold fillL;simp
theorem fillL_all {c:List Int} {S j:Nat} (h:j = c.length):fillL c S j = padL c S:=by unfold fillL padL;rw [h,List.take_length]
theorem fillL_set {c:List Int} {S j:Nat} (h:j < c.length) (hc:c.length ≤ S):(fillL c S j).set j (c.getD j 0) = fillL c S (j + 1):=by
 unfold fillL
 have e:S - j = (S - (j + 1)) + 1:=by omega
 have hl:(c.take j).length = j:=by rw [List.length_take];omega
 rw [e,List.replicate_succ,List.set_append,if_neg (by omega),hl,Nat.sub_self,List.set_cons_zero,List.take_succ_eq_append_getElem h,List.append_assoc]
 simp [List.getD_eq_getElem?_getD,h]
theorem piece_get {p:List Int} {S i j:Nat} (h:j < ((p.drop (i * S)).take S).length):((p.drop (i * S)).take S).getD j 0 = p.getD (i * S + j) 0:=by
 rw [List.length_take,List.length_drop] at h
 rw [List.getD_eq_getElem?_getD,List.getElem?_take_of_lt (by omega),List.getElem?_drop,List.getD_eq_getElem?_getD]
end Go.Art
namespace Go.Art
open Go Go.Proofs Go.RowKit
structure CtG where
 i:Nat
 o:Value
 hs:List Value
attribute [local irreducible] Fit pt own ro vw mpc lpt vels rels mow lrc dfr
attribute [local irreducible] lmp lme mit velg relg bnd owl
set_option maxHeartbeats 2000000 in
theorem RCut_tr (dv:Value) (p:List Int) (K S:Nat) (hK:1 ≤ K∧K ≤ 65536) (hS:1 ≤ S∧S ≤ 65535) (hp:p.length ≤ K * S):Tr Tryz.prog 136 [dv,I K,I S] [vw dv (By p)] []
  fun v D=>∃ o hs,v = tup2 o (I 0)∧o.oneCell' = true∧hs.length = K∧D = [own TyV o hs,relg y8 hs (chL p S K)]:=by
 have hbp:=By_len p
 have hKS:((K * S:Nat):Int) = (K:Int) * S:=Int.natCast_mul K S
 have hKSb:K * S ≤ 65536 * 65535:=Nat.mul_le_mul hK.2 hS.2
 have hiS:∀ i:Nat,i < K→((i * S:Nat):Int) = (i:Int) * S∧i * S + S ≤ K * S:=fun i hi=>⟨Int.natCast_mul i S,by
  have:=Nat.mul_le_mul_right S (show i + 1 ≤ K by omega)
  rw [Nat.add_mul,Nat.one_mul] at this;exact this⟩
 generalize K * S = KS at *
 refine Tr.enter env _ Tryz.func136 (by kernel_rfl) rfl Tryz.ntmps136 rfl (by repeat (first | exact has00 | refine has01 ?_)) fun w0=>?_
 repeat' first|(refine ln (xs:=By p) ?_;rw [hbp])|(refine aw (m:=((KS:Nat):Int)) ?_ (h:=by rw [hKS];rfl))|(refine wo ?_;first|(refine ao ?_;first|refine oa ?_)|refine oa ?_|refine gy ?_|(refine gsi (fun hB=>?_) (fun hB=>?_) <;> try (exfalso;omega)))|(refine gc ?_;first|(refine ci (fun hB=>?_) (fun hB=>?_) <;> try (exfalso;omega)))|refine sq ?_|refine rg ?_|refine xc ?_|refine nl ?_|refine sk ?_|refine bk ?_
 refine TC.im (own_nil TyV _) ?_
 refine TC.im (relg_nil (g:=y8) _) ?_
 refine TC.loop (ι:=CtG) (fun g=>[(9,I g.i),(8,g.o)]) (fun g=>[own TyV g.o g.hs,relg y8 g.hs (chL p S g.i)]) (fun g=>(g.i ≤ K∧g.o.oneCell' = true)∧g.hs.length = g.i) (fun g=>K - g.i) ⟨0,nS,[]⟩ [0,1,2] ⟨⟨Nat.zero_le _,rfl⟩,rfl⟩ ?_ (hf:=by dsimp only;exact fitA)
 rintro ⟨i,o,hs⟩ ⟨⟨hi,ho⟩,h2⟩
 dsimp only at hi ho h2 ⊢
 by_cases hlt:i < K
 rotate_left
 ·obtain rfl:i = K:=by omega
  repeat' first|(refine wo ?_;first|(refine ao ?_;first|refine oa ?_)|refine oa ?_)|(refine gc ?_;first|(refine ci (fun hB=>?_) (fun hB=>?_) <;> try (exfalso;omega)))|refine sq ?_|refine rg ?_|refine xc ?_|refine nl ?_|refine xe ?_|refine rt ?_
  exact r2 ⟨o,hs,rfl,ho,h2,rfl⟩
 obtain ⟨hi1,hi2⟩:=hiS i hlt
 have hcs:=chL_succ p S i
 have hcl:=chL_len p S i
 have hcp:chP p S i = padL ((p.drop (i * S)).take S) S:=rfl
 have hpg:=fun j=>piece_get (p:=p) (S:=S) (i:=i) (j:=j)
 have hcL:((p.drop (i * S)).take S).length = min S (p.length - i * S):=by rw [List.length_take,List.length_drop]
 generalize chL p S i = CL at *
 generalize chP p S i = CP at *
 generalize (p.drop (i * S)).take S = c at *
 have hcS:c.length ≤ S:=by omega
 have f0:=fillL_zero c S
 generalize i * S = iS at *
 repeat' first|(refine mkb fun x=>?_;rw [Int.toNat_natCast,← f0];refine TO.one (v:=x) (xs:=By (fillL c S 0)) fun hx=>?_)|(refine wo ?_;first|(refine ao ?_;first|refine oa ?_)|refine oa ?_)|(refine gc ?_;first|(refine ci (fun hB=>?_) (fun hB=>?_) <;> try (exfalso;omega)))|refine sq ?_|refine rg ?_|refine xc ?_|refine nl ?_|refine sk ?_|refine bk ?_
 refine TC.loop (ι:=Nat) (fun j=>[(11,I j)]) (fun j=>[own TyB x (By (fillL c S j))]) (fun j=>j ≤ c.length) (fun j=>c.length - j) 0 [0,1,2,8,9,10] (Nat.zero_le _) ?_ (hf:=by exact fitA)
 intro j hj
 have hfl:=fillL_len hj hcS
 by_cases hjl:j < c.length
 ·have hset:=fillL_set hjl hcS
  rw [hpg j hjl] at hset
  have hjs:j < S:=by omega
  have hjp:iS + j < p.length:=by omega
  repeat' first|(refine ln (xs:=By p) ?_;rw [hbp])|(refine aw (m:=((iS:Nat):Int)) ?_ (h:=by rw [hi1];rfl))|(refine lb (l:=p) (j:=iS + j) ?_)|(refine sob (l:=fillL c S j) (j:=j) ?_;rw [hset])|(refine wo ?_;first|(refine ao ?_;first|refine aw ?_|refine oa ?_)|refine oa ?_|refine ixmn ?_|refine gy ?_|(refine gsi (fun hB=>?_) (fun hB=>?_) <;> try (exfalso;omega)))|(refine gc ?_;first|(refine ci (fun hB=>?_) (fun hB=>?_) <;> try (exfalso;omega)))|refine sq ?_|refine rg ?_|refine xc ?_|refine nl ?_|refine sk ?_|refine bk ?_|refine xb ?_
  exact lp (j + 1) hjl
 ·have hja:=fillL_all (S:=S) (show j = c.length by omega)
  rw [hja,← hcp]
  repeat' first|(refine ln (xs:=By p) ?_;rw [hbp])|(refine aw (m:=((iS:Nat):Int)) ?_ (h:=by rw [hi1];rfl))|(refine sli (vs:=[x]) (fun q1=>?_) (h1:=one_cons hx one_nil))|(refine ap (xs:=hs) (news:=[x]) (fun o2=>?_) (h1:=one_cons hx one_nil);refine TO.one (v:=o2) (xs:=hs ++ [x]) fun ho2=>?_)|(refine wo ?_;first|(refine ao ?_;first|refine aw ?_|refine oa ?_)|refine oa ?_|refine gy ?_|refine gn ?_|(refine gsi (fun hB=>?_) (fun hB=>?_) <;> try (exfalso;omega)))|(refine gc ?_;first|refine cf ?_|(refine ci (fun hB=>?_) (fun hB=>?_) <;> try (exfalso;omega)))|refine sq ?_|refine rg ?_|refine xc ?_|refine nl ?_|refine xe ?_|refine xb ?_
  all_goals refine TX.im (snoc_own (g:=y8) (e:=TyB) (hs:=hs) (ls:=CL) (v:=x) (l:=CP) (by omega) fitA) ?_
  all_goals exact lp ⟨i + 1,o2,hs ++ [x]⟩ ⟨⟨hlt,ho2⟩,by simp [h2]⟩ (hf:=by dsimp only;rw [hcs];exact fitA)
theorem RSymbols_tr (m:MfS) (tv dv:Value) (d:List Int) (n:Int) (hv:tv.oneCell' = true) (hok:m.ok) (hd:(d.length:Int) = m.size) (hn:0 ≤ n∧n < m.blocks) :
  Tr Tryz.prog 101 [.agg #[I m.size,I m.sym,I m.k,I m.seed,tv],dv,I n] [vw tv (Is m.t),vw dv (By d)] []
   fun v D=>∃ o hs,v = tup2 o (I 0)∧o.oneCell' = true∧hs.length = m.k.toNat∧D = [own TyV o hs,relg y8 hs (m.syms d n)]:=by
 have hC:=RMCheck_tr m tv hv
 have hP:=RPart_tr m tv n hv hok hn
 have hdl:=By_len d
 rw [show mfE m = 0 from if_pos hok] at hC
 have hf:=MfS.full_in hok
 have hbi:=MfS.blocks_in hok
 have hfe:m.full = m.k * m.sym:=rfl
 unfold MfS.syms MfS.piece
 have hF:0 ≤ n * m.full∧n * m.full < m.size:=by
  constructor
  ·exact Int.mul_nonneg hn.1 (by omega)
  ·have h2:0 < m.size:=by
    rcases Int.lt_or_le 0 m.size with h | h
    ·exact h
    ·exfalso
     have:m.size = 0:=by have:=hok.1;omega
     have hb:m.blocks = 0:=by
      rw [MfS.blocks,if_pos hok,this]
      exact Int.ediv_eq_zero_of_lt (by omega) (by omega)
     omega
   have h3:n * m.full ≤ (m.blocks - 1) * m.full:=Int.mul_le_mul_of_nonneg_right (by omega) (by omega)
   have:=(hbi.2.2 h2).1
   omega
 generalize n * m.full = F at *
 have hmz:=minI_le m.full (m.size - F)
 generalize minI m.full (m.size - F) = Z at *
 obtain ⟨g1,g2,g3,_⟩:=hok
 clear hbi
 obtain ⟨size,sym,k,seed,t⟩:=m
 dsimp only at *
 obtain ⟨K,rfl⟩ : ∃ K:Nat,k = K:=⟨k.toNat,by omega⟩
 obtain ⟨S,rfl⟩ : ∃ S:Nat,sym = S:=⟨sym.toNat,by omega⟩
 rw [Int.toNat_natCast,Int.toNat_natCast]
 have hpc:((By d).take (F + Z).toNat).drop F.toNat = By ((d.drop F.toNat).take Z.toNat):=by
  unfold By;rw [← List.map_take,← List.map_drop,List.drop_take];congr 2;omega
 refine Tr.enter env _ Tryz.func101 (by kernel_rfl) rfl Tryz.ntmps101 rfl (by repeat (first | exact has00 | refine has01 ?_)) fun w0=>?_
 repeat' first|(refine gca ?_;first|(refine ca hC ?_;rintro _ _ ⟨rfl,rfl⟩)|(refine ca hP ?_;rintro _ _ ⟨rfl,rfl⟩))|refine bx fun p=>?_|refine lda ?_|(refine ln (xs:=By d) ?_;rw [hdl])|(refine wo ?_;first|(refine ao ?_;first|refine oa ?_)|refine oa ?_|refine ld ?_|refine gy ?_)|(refine gc ?_;first|refine cf ?_|(refine cn (fun hB=>?_) (fun hB=>?_) <;> try (exfalso;omega)))|refine sq ?_|refine rg ?_|refine xc ?_|refine nl ?_|refine sk ?_
 all_goals try (exfalso;omega)
 refine rs (fun w=>w.heap[p]? = some (.cells [I size,I S,I K,I seed,tv].toArray TMf (0,0))) ?_ (fun w hw=>pt_at memA hw)
 refine tka 0 ?_
 refine tka 1 ?_
 refine tka 2 ?_
 refine tka 3 ?_
 refine tk 4 (v:=I (F + Z)) (hi:=rfl) (fun w h=>by exact R_add64 rfl rfl (by omega)) ?_
 refine tka 6 ?_
 refine tkl 7 (cs:=[I size,I S,I K,I seed,tv]) (fun w h=>h) ?_
 refine tka 8 ?_
 refine tkl 9 (cs:=[I size,I S,I K,I seed,tv]) (fun w h=>h) ?_
 refine t1 5 ?_
 refine sc (xs:=By d) ?_
 refine nl ?_
 refine te (fun w hw=>pt_at memA hw) ?_
 refine t1 10 ?_
 refine ca (RCut_tr _ ((d.drop F.toNat).take Z.toNat) K S (by omega) (by omega) (by rw [List.length_take];have:=Int.natCast_mul K S;omega)) ?_ (hp:=has1 (by rw [← hpc];exact has_sub hasA (by omega) (by omega)) has0)
 rintro _ _ ⟨o,hs,rfl,ho,hhl,rfl⟩
 refine nl ?_
 refine te (fun w hw=>pt_at memA hw) ?_
 refine tka 11 ?_
 refine tka 12 ?_
 refine tka 13 ?_
 refine tka 14 ?_
 refine t0 ?_
 skip
 repeat' first|refine xc ?_|refine rt ?_
 exact r2 ⟨o,hs,rfl,ho,hhl,rfl⟩
theorem RTurn_tr (v:Value) (d:List Bool) (last:Int) (hl : -9223372036854775808 ≤ last∧last ≤ 9223372036854775807) (hdl:d.length ≤ 1099511627776):Tr Tryz.prog 100 [v,I last] [vw v (Bo d)] []
  fun w D=>w = turnV (turnO d last)∧D = []:=by
 have hbl:=Bo_len d
 unfold turnO
 by_cases h1:last < 0
 ·have hb:turnB d.length last = d.length:=if_pos (.inl h1)
  have hx:(d.length:Int) - 1 + 1 = turnB d.length last:=by rw [hb];omega
  have hbb:turnB d.length last ≤ d.length:=by omega
  generalize turnB d.length last = bb at *
  refine Tr.enter env _ Tryz.func100 (by kernel_rfl) rfl Tryz.ntmps100 rfl (by repeat (first | exact has00 | refine has01 ?_)) fun w0=>?_
  repeat' first|(refine ln (xs:=Bo d) ?_;rw [hbl])|(refine wo ?_;first|(refine ao ?_;first|refine aw ?_|refine oa ?_)|refine oa ?_|refine gn ?_|(refine gsi (fun hB=>?_) (fun hB=>?_) <;> try (exfalso;omega)))|(refine gc ?_;first|refine ct ?_)|refine sq ?_|refine rg ?_|refine xc ?_|refine nl ?_|refine bk ?_
  all_goals try (exfalso;omega)
  refine TC.loop (ι:=Nat) (fun i=>[(6,I i),(1,I ((d.length:Int) - 1))]) (fun _=>[]) (fun i=>(1 ≤ i∧i ≤ d.length + 1)∧turnG d bb d.length 0 = turnG d bb (d.length + 1 - i) (i - 1)) (fun i=>d.length + 1 - i) 1 [0] ⟨⟨Nat.le_refl _,by omega⟩,by simp⟩ ?_ (hf:=by exact fitA)
  rintro i ⟨⟨hi1,hi⟩,hg⟩
  rw [hg]
  by_cases hlt:i < d.length + 1
  rotate_left
  ·obtain rfl:i = d.length + 1:=by omega
   rw [show d.length + 1 - (d.length + 1) = 0 by omega]
   repeat' first|(refine ln (xs:=Bo d) ?_;rw [hbl])|(refine wo ?_;first|(refine ao ?_;first|refine oa ?_)|refine oa ?_)|(refine gc ?_;first|(refine ci (fun hB=>?_) (fun hB=>?_) <;> try (exfalso;omega)))|refine sq ?_|refine rg ?_|refine xc ?_|refine nl ?_|refine xe ?_|refine rt ?_
   exact r2 ⟨rfl,rfl⟩
  have hmr:=Int.emod_nonneg (((d.length:Int) - 1) + (i:Int)) (show (d.length:Int) ≠ 0 by omega)
  have hmr2:=Int.emod_lt_of_pos (((d.length:Int) - 1) + (i:Int)) (show 0 < (d.length:Int) by omega)
  have he:(((d.length:Int) - 1) + (i:Int)) % (d.length:Int) = ((turnA d.length bb (i - 1):Nat):Int):=by unfold turnA;rw [Int.natCast_emod,show ((d.length:Int) - 1) + (i:Int) = ((bb + (i - 1):Nat):Int) by omega]
  have hs:turnG d bb (d.length + 1 - i) (i - 1) = if d.getD (turnA d.length bb (i - 1)) false then turnG d bb (d.length + 1 - (i + 1)) (i + 1 - 1) else some (turnA d.length bb (i - 1)):=by
   rw [show d.length + 1 - i = (d.length + 1 - (i + 1)) + 1 by omega,turnG,show i - 1 + 1 = i + 1 - 1 by omega]
  have hal:turnA d.length bb (i - 1) < d.length:=Nat.mod_lt _ (by omega)
  generalize turnA d.length bb (i - 1) = a at *
  cases hd:d.getD a false
  ·rw [hs,if_neg (by rw [hd];decide),show turnV (some a) = tup2 (I ((((d.length:Int) - 1) + (i:Int)) % (d.length:Int))) (.bool true) by rw [he];rfl]
   repeat' first|(refine ln (xs:=Bo d) ?_;rw [hbl])|(refine lbo (l:=d) ?_;rw [he,Int.toNat_natCast,hd])|(refine wo ?_;first|(refine ao ?_;first|refine aw ?_|refine oa ?_|refine amod ?_)|refine oa ?_|refine ixm ?_)|(refine gc ?_;first|refine ct ?_|(refine ci (fun hB=>?_) (fun hB=>?_) <;> try (exfalso;omega)))|refine sq ?_|refine rg ?_|refine xc ?_|refine nl ?_|refine sk ?_|refine bk ?_|refine rt ?_
   exact r2 ⟨rfl,rfl⟩
  ·rw [hs,if_pos hd]
   repeat' first|(refine ln (xs:=Bo d) ?_;rw [hbl])|(refine lbo (l:=d) ?_;rw [he,Int.toNat_natCast,hd])|(refine wo ?_;first|(refine ao ?_;first|refine aw ?_|refine oa ?_|refine amod ?_)|refine oa ?_|refine ixm ?_)|(refine gc ?_;first|refine cf ?_|(refine ci (fun hB=>?_) (fun hB=>?_) <;> try (exfalso;omega)))|refine sq ?_|refine rg ?_|refine xc ?_|refine nl ?_|refine sk ?_|refine bk ?_|refine xb ?_
   exact lp (i + 1) ⟨⟨by omega,by omega⟩,rfl⟩ (by omega) (hs:=by (repeat (refine Sub.cons rfl (by first | rfl | go_num) ?_));exact Sub.nil) (hf:=by exact fitA)
 by_cases h2:(d.length:Int) ≤ last
 ·have hb:turnB d.length last = d.length:=if_pos (.inr h2)
  have hx:(d.length:Int) - 1 + 1 = turnB d.length last:=by rw [hb];omega
  have hbb:turnB d.length last ≤ d.length:=by omega
  generalize turnB d.length last = bb at *
  refine Tr.enter env _ Tryz.func100 (by kernel_rfl) rfl Tryz.ntmps100 rfl (by repeat (first | exact has00 | refine has01 ?_)) fun w0=>?_
  repeat' first|(refine ln (xs:=Bo d) ?_;rw [hbl])|(refine wo ?_;first|(refine ao ?_;first|refine aw ?_|refine oa ?_)|refine oa ?_|refine gy ?_|(refine gsi (fun hB=>?_) (fun hB=>?_) <;> try (exfalso;omega)))|(refine gc ?_;first|(refine ci (fun hB=>?_) (fun hB=>?_) <;> try (exfalso;omega)))|refine sq ?_|refine rg ?_|refine xc ?_|refine nl ?_|refine bk ?_
  all_goals try (exfalso;omega)
  refine TC.loop (ι:=Nat) (fun i=>[(6,I i),(1,I ((d.length:Int) - 1))]) (fun _=>[]) (fun i=>(1 ≤ i∧i ≤ d.length + 1)∧turnG d bb d.length 0 = turnG d bb (d.length + 1 - i) (i - 1)) (fun i=>d.length + 1 - i) 1 [0] ⟨⟨Nat.le_refl _,by omega⟩,by simp⟩ ?_ (hf:=by exact fitA)
  rintro i ⟨⟨hi1,hi⟩,hg⟩
  rw [hg]
  by_cases hlt:i < d.length + 1
  rotate_left
  ·obtain rfl:i = d.length + 1:=by omega
   rw [show d.length + 1 - (d.length + 1) = 0 by omega]
   repeat' first|(refine ln (xs:=Bo d) ?_;rw [hbl])|(refine wo ?_;first|(refine ao ?_;first|refine oa ?_)|refine oa ?_)|(refine gc ?_;first|(refine ci (fun hB=>?_) (fun hB=>?_) <;> try (exfalso;omega)))|refine sq ?_|refine rg ?_|refine xc ?_|refine nl ?_|refine xe ?_|refine rt ?_
   exact r2 ⟨rfl,rfl⟩
  have hmr:=Int.emod_nonneg (((d.length:Int) - 1) + (i:Int)) (show (d.length:Int) ≠ 0 by omega)
  have hmr2:=Int.emod_lt_of_pos (((d.length:Int) - 1) + (i:Int)) (show 0 < (d.length:Int) by omega)
  have he:(((d.length:Int) - 1) + (i:Int)) % (d.length:Int) = ((turnA d.length bb (i - 1):Nat):Int):=by unfold turnA;rw [Int.natCast_emod,show ((d.length:Int) - 1) + (i:Int) = ((bb + (i - 1):Nat):Int) by omega]
  have hs:turnG d bb (d.length + 1 - i) (i - 1) = if d.getD (turnA d.length bb (i - 1)) false then turnG d bb (d.length + 1 - (i + 1)) (i + 1 - 1) else some (turnA d.length bb (i - 1)):=by
   rw [show d.length + 1 - i = (d.length + 1 - (i + 1)) + 1 by omega,turnG,show i - 1 + 1 = i + 1 - 1 by omega]
  have hal:turnA d.length bb (i - 1) < d.length:=Nat.mod_lt _ (by omega)
  generalize turnA d.length bb (i - 1) = a at *
  cases hd:d.getD a false
  ·rw [hs,if_neg (by rw [hd];decide),show turnV (some a) = tup2 (I ((((d.length:Int) - 1) + (i:Int)) % (d.length:Int))) (.bool true) by rw [he];rfl]
   repeat' first|(refine ln (xs:=Bo d) ?_;rw [hbl])|(refine lbo (l:=d) ?_;rw [he,Int.toNat_natCast,hd])|(refine wo ?_;first|(refine ao ?_;first|refine aw ?_|refine oa ?_|refine amod ?_)|refine oa ?_|refine ixm ?_)|(refine gc ?_;first|refine ct ?_|(refine ci (fun hB=>?_) (fun hB=>?_) <;> try (exfalso;omega)))|refine sq ?_|refine rg ?_|refine xc ?_|refine nl ?_|refine sk ?_|refine bk ?_|refine rt ?_
   exact r2 ⟨rfl,rfl⟩
  ·rw [hs,if_pos hd]
   repeat' first|(refine ln (xs:=Bo d) ?_;rw [hbl])|(refine lbo (l:=d) ?_;rw [he,Int.toNat_natCast,hd])|(refine wo ?_;first|(refine ao ?_;first|refine aw ?_|refine oa ?_|refine amod ?_)|refine oa ?_|refine ixm ?_)|(refine gc ?_;first|refine cf ?_|(refine ci (fun hB=>?_) (fun hB=>?_) <;> try (exfalso;omega)))|refine sq ?_|refine rg ?_|refine xc ?_|refine nl ?_|refine sk ?_|refine bk ?_|refine xb ?_
   exact lp (i + 1) ⟨⟨by omega,by omega⟩,rfl⟩ (by omega) (hs:=by (repeat (refine Sub.cons rfl (by first | rfl | go_num) ?_));exact Sub.nil) (hf:=by exact fitA)
 have hb:turnB d.length last = (last + 1).toNat:=if_neg (by omega)
 have hx:last + 1 = turnB d.length last:=by rw [hb];omega
 have hbb:turnB d.length last ≤ d.length:=by omega
 generalize turnB d.length last = bb at *
 refine Tr.enter env _ Tryz.func100 (by kernel_rfl) rfl Tryz.ntmps100 rfl (by repeat (first | exact has00 | refine has01 ?_)) fun w0=>?_
 repeat' first|(refine ln (xs:=Bo d) ?_;rw [hbl])|(refine wo ?_;first|(refine ao ?_;first|refine oa ?_)|refine oa ?_|refine gy ?_|(refine gsi (fun hB=>?_) (fun hB=>?_) <;> try (exfalso;omega)))|(refine gc ?_;first|(refine ci (fun hB=>?_) (fun hB=>?_) <;> try (exfalso;omega)))|refine sq ?_|refine rg ?_|refine xc ?_|refine nl ?_|refine sk ?_|refine bk ?_
 all_goals try (exfalso;omega)
 refine TC.loop (ι:=Nat) (fun i=>[(6,I i),(1,I last)]) (fun _=>[]) (fun i=>(1 ≤ i∧i ≤ d.length + 1)∧turnG d bb d.length 0 = turnG d bb (d.length + 1 - i) (i - 1)) (fun i=>d.length + 1 - i) 1 [0] ⟨⟨Nat.le_refl _,by omega⟩,by simp⟩ ?_ (hf:=by exact fitA)
 rintro i ⟨⟨hi1,hi⟩,hg⟩
 rw [hg]
 by_cases hlt:i < d.length + 1
 rotate_left
 ·obtain rfl:i = d.length + 1:=by omega
  rw [show d.length + 1 - (d.length + 1) = 0 by omega]
  repeat' first|(refine ln (xs:=Bo d) ?_;rw [hbl])|(refine wo ?_;first|(refine ao ?_;first|refine oa ?_)|refine oa ?_)|(refine gc ?_;first|(refine ci (fun hB=>?_) (fun hB=>?_) <;> try (exfalso;omega)))|refine sq ?_|refine rg ?_|refine xc ?_|refine nl ?_|refine xe ?_|refine rt ?_
  exact r2 ⟨rfl,rfl⟩
 have hmr:=Int.emod_nonneg (last + (i:Int)) (show (d.length:Int) ≠ 0 by omega)
 have hmr2:=Int.emod_lt_of_pos (last + (i:Int)) (show 0 < (d.length:Int) by omega)
 have he:(last + (i:Int)) % (d.length:Int) = ((turnA d.length bb (i - 1):Nat):Int):=by unfold turnA;rw [Int.natCast_emod,show last + (i:Int) = ((bb + (i - 1):Nat):Int) by omega]
 have hs:turnG d bb (d.length + 1 - i) (i - 1) = if d.getD (turnA d.length bb (i - 1)) false then turnG d bb (d.length + 1 - (i + 1)) (i + 1 - 1) else some (turnA d.length bb (i - 1)):=by
  rw [show d.length + 1 - i = (d.length + 1 - (i + 1)) + 1 by omega,turnG,show i - 1 + 1 = i + 1 - 1 by omega]
 have hal:turnA d.length bb (i - 1) < d.length:=Nat.mod_lt _ (by omega)
 generalize turnA d.length bb (i - 1) = a at *
 cases hd:d.getD a false
 ·rw [hs,if_neg (by rw [hd];decide),show turnV (some a) = tup2 (I ((last + (i:Int)) % (d.length:Int))) (.bool true) by rw [he];rfl]
  repeat' first|(refine ln (xs:=Bo d) ?_;rw [hbl])|(refine lbo (l:=d) ?_;rw [he,Int.toNat_natCast,hd])|(refine wo ?_;first|(refine ao ?_;first|refine aw ?_|refine oa ?_|refine amod ?_)|refine oa ?_|refine ixm ?_)|(refine gc ?_;first|refine ct ?_|(refine ci (fun hB=>?_) (fun hB=>?_) <;> try (exfalso;omega)))|refine sq ?_|refine rg ?_|refine xc ?_|refine nl ?_|refine sk ?_|refine bk ?_|refine rt ?_
  exact r2 ⟨rfl,rfl⟩
 ·rw [hs,if_pos hd]
  repeat' first|(refine ln (xs:=Bo d) ?_;rw [hbl])|(refine lbo (l:=d) ?_;rw [he,Int.toNat_natCast,hd])|(refine wo ?_;first|(refine ao ?_;first|refine aw ?_|refine oa ?_|refine amod ?_)|refine oa ?_|refine ixm ?_)|(refine gc ?_;first|refine cf ?_|(refine ci (fun hB=>?_) (fun hB=>?_) <;> try (exfalso;omega)))|refine sq ?_|refine rg ?_|refine xc ?_|refine nl ?_|refine sk ?_|refine bk ?_|refine xb ?_
  exact lp (i + 1) ⟨⟨by omega,by omega⟩,rfl⟩ (by omega) (hs:=by (repeat (refine Sub.cons rfl (by first | rfl | go_num) ?_));exact Sub.nil) (hf:=by exact fitA)
end Go.Art
namespace Go.Art
open Go Go.Proofs Go.RowKit
theorem ofInt32_nat {x:Int} (h:0 ≤ x∧x < 4294967296):(BitVec.ofInt 32 x).toNat = x.toNat:=by rw [BitVec.toNat_ofInt];omega
theorem x32_zero {y:Int} (h:0 ≤ y∧y < 4294967296):x32 y 0 = y:=by
 unfold x32
 rw [show BitVec.ofInt 32 0 = 0#32 from rfl,BitVec.xor_zero,ofInt32_nat h];omega
theorem x32_lt (p q:Int):x32 p q < 4294967296:=by unfold x32;have:=(BitVec.ofInt 32 p ^^^ BitVec.ofInt 32 q).isLt;omega
theorem a32_one {x:Int} (h:0 ≤ x∧x < 4294967296):a32 x 1 = x % 2:=by
 unfold a32
 rw [BitVec.toNat_and,ofInt32_nat h,show (BitVec.ofInt 32 1).toNat = 1 from rfl,Nat.and_one_is_mod];omega
theorem stepE_eq {x:Int} (h:0 ≤ x∧x < 4294967296):stepE x = if x % 2 = 1 then x32 (x / 2) 3988292384 else x / 2:=by
 unfold stepE
 rw [a32_one h]
 split
 ·rename_i e;rw [e];rfl
 ·rename_i e
  rw [show x % 2 = 0 by omega]
  exact x32_zero (y:=x / 2) (by omega)
theorem stepN_in {x:Int} (h:0 ≤ x∧x < 4294967296):∀ n,0 ≤ stepN n x∧stepN n x < 4294967296
 | 0=>h
 | _ + 1=>⟨x32_pos _ _,x32_lt _ _⟩
section
variable {P:Program} {E:Env P} {n:Sh} {X:Cx} {s:List K} {fr:Fr} {A:List Ch} {ops:Array Oper} {rest:List Oper} {d:Nat} {ty t t':TypeId} {pos:String} {after:Array Edge} {x y:Operand} {p q:Int}
theorem q3 (k:TO E n X s ops rest ((d,c32 (p / q)) :: fr) A) (hx:ev fr x = some (c32 p):=by rfl) (hy:ev fr y = some (c32 q):=by rfl) (hb:(0 ≤ p∧p < 4294967296)∧0 < q:=by omega) (hd:Nat.blt d n.n = true:=by rfl):TO E n X s ops (⟨some d,.binOp .quo t x y t',ty,pos,after,none⟩ :: rest) fr A:=
 TO.val (fun _ _=>by
  have h1:=R_quo (P:=P) (t:=t) (t':=t') (ty:=ty) (n:=n) (w:=‹World›) hx hy (by omega)
  have h2:IntKind.u32.wrap (p.tdiv q) = p / q:=by
   rw [Int.tdiv_eq_ediv_of_nonneg hb.1.1]
   have h3:0 ≤ p / q:=Int.ediv_nonneg hb.1.1 (by omega)
   have h4:p / q ≤ p:=Int.ediv_le_self _ hb.1.1
   simp [IntKind.wrap,IntKind.bits,IntKind.signed];omega
  rw [h2] at h1;exact h1) k hd
theorem w3 (k:TO E n X s ops rest ((d,c32 p) :: fr) A) (h:evOp E fr (.convert t t' x) = some (.int .u32 (IntKind.u32.wrap p)):=by rfl) (hb:0 ≤ p∧p < 4294967296:=by omega) (hd:Nat.blt d n.n = true:=by rfl):TO E n X s ops (⟨some d,.convert t t' x,ty,pos,after,none⟩ :: rest) fr A:=
 oa (by
  have h2:IntKind.u32.wrap p = p:=by simp [IntKind.wrap,IntKind.bits,IntKind.signed];omega
  rw [h2];exact k) h hd
theorem R_strne {w:World} {a b:ByteArray} (hx:ev fr x = some (.string a)) (hy:ev fr y = some (.string b)):OpV P n fr (.binOp .neq t x y t') ty w (.bool (!(a.toList == b.toList))) w:=⟨fun ac ha _ _ _ _=>by
 have hg:(eqGuard .neq t x y (.string a) (.string b)).run P w = .ok () w:=rfl
 simp only [execOp,ha.ev hx,ha.ev hy]
 simp [hg,binOp,Op.stringOp]⟩
theorem sne_ {l l':List Int} (k:TO E n X s ops rest ((d,.bool (!decide (l = l'))) :: fr) A) (hx:ev fr x = some (.string (strOfNums l)):=by rfl) (hy:ev fr y = some (.string (strOfNums l')):=by rfl) (hl:inB l:=by assumption) (hl':inB l':=by assumption) (hd:Nat.blt d n.n = true:=by rfl) :
  TO E n X s ops (⟨some d,.binOp .neq t x y t',ty,pos,after,none⟩ :: rest) fr A:=TO.val (fun _ _=>by rw [← str_eq hl hl'];exact R_strne hx hy) k hd
end
attribute [local irreducible] Fit pt own ro vw mpc lpt vels rels mow lrc dfr
attribute [local irreducible] lmp lme mit velg relg
theorem shifted_tr (x:Int) (n:Nat) (hx:0 ≤ x∧x < 4294967296) (hn:n ≤ 8):Tr Tryz.prog 171 [c32 x,I n] [] [] fun v D=>v = c32 (stepN n x)∧D = []:=by
 refine Tr.enter env _ Tryz.func171 (by kernel_rfl) rfl Tryz.ntmps171 rfl (by repeat (first | exact has00 | refine has01 ?_)) fun w0=>?_
 repeat' first|(refine wo ?_;first|refine oa ?_)|refine sq ?_|refine rg ?_|refine xc ?_|refine nl ?_|refine bk ?_
 refine TC.loop (ι:=Nat) (fun i=>[(5,I i),(0,c32 (stepN i x))]) (fun _=>[]) (fun i=>i ≤ n) (fun i=>n - i) 0 [1] (Nat.zero_le _) ?_
 intro i hi
 have hin:=stepN_in hx i
 by_cases hlt:i < n
 ·have hs:stepN (i + 1) x = if stepN i x % 2 = 1 then x32 (stepN i x / 2) 3988292384 else stepN i x / 2:=stepE_eq hin
  generalize stepN i x = z at *
  by_cases ho:z % 2 = 1
  ·rw [if_pos ho] at hs
   repeat' first|refine q3 ?_|refine x3 ?_|(refine wo ?_;first|(refine ao ?_;first|refine aw ?_|refine oa ?_|refine umod ?_)|refine oa ?_)|(refine gc ?_;first|(refine ci (fun hB=>?_) (fun hB=>?_) <;> try (exfalso;omega)))|refine sq ?_|refine rg ?_|refine xc ?_|refine nl ?_|refine sk ?_|refine bk ?_|refine xb ?_
   exact lp (i + 1) hlt (hs:=by rw [hs];(repeat (refine Sub.cons rfl (by first | rfl | go_num) ?_));exact Sub.nil)
  ·rw [if_neg ho] at hs
   repeat' first|refine q3 ?_|refine x3 ?_|(refine wo ?_;first|(refine ao ?_;first|refine aw ?_|refine oa ?_|refine umod ?_)|refine oa ?_)|(refine gc ?_;first|(refine ci (fun hB=>?_) (fun hB=>?_) <;> try (exfalso;omega)))|refine sq ?_|refine rg ?_|refine xc ?_|refine nl ?_|refine sk ?_|refine bk ?_|refine xb ?_
   exact lp (i + 1) hlt (hs:=by rw [hs];(repeat (refine Sub.cons rfl (by first | rfl | go_num) ?_));exact Sub.nil)
 ·obtain rfl:i = n:=by omega
  repeat' first|(refine wo ?_;first|(refine ao ?_;first|refine oa ?_)|refine oa ?_)|(refine gc ?_;first|(refine ci (fun hB=>?_) (fun hB=>?_) <;> try (exfalso;omega)))|refine sq ?_|refine rg ?_|refine xc ?_|refine nl ?_|refine xe ?_|refine rt ?_
  exact r1 ⟨rfl,rfl⟩
theorem RSum9_tr (b:Value) (l:List Int):Tr Tryz.prog 160 [nP,b] [vw b (By l)] [] fun v D=>v = c32 (crcF l)∧D = []:=by
 refine Tr.enter env _ Tryz.func160 (by kernel_rfl) rfl Tryz.ntmps160 rfl (by repeat (first | exact has00 | refine has01 ?_)) fun w0=>?_
 refine TC.fact (p:=l.length ≤ 9223372036854775807) (fun w hw=>by have:=(has_sl hw (v:=b) (xs:=By l) hasA).len;rwa [By_len] at this) fun hln=>?_
 have hbl:=By_len l
 repeat' first|(refine wo ?_;first|refine oa ?_)|refine sq ?_|refine rg ?_|refine xc ?_|refine nl ?_|refine bk ?_
 refine TC.loop (ι:=Nat) (fun i=>[(6,I i),(5,c32 (crcN (l.take i)))]) (fun _=>[]) (fun i=>i ≤ l.length) (fun i=>l.length - i) 0 [0,1] (by omega) ?_
 intro i hi
 have hp:=crcN_pos (l.take i)
 have hp2:crcN (l.take i) < 4294967296:=by
  rcases List.eq_nil_or_concat (l.take i) with h | ⟨m,c,h⟩
  ·rw [h];decide
  ·rw [h,List.concat_eq_append,crcN_snoc];exact x32_lt _ _
 by_cases h:i < l.length
 ·have ht:crcN (l.take (i + 1)) = crcS (crcN (l.take i)) (l.getD i 0):=by rw [take_succ' h 0,crcN_snoc]
  generalize hx2:crcN (l.take (i + 1)) = x2 at *
  generalize crcN (l.take i) = x1 at *
  have hb:=bxr_range (x1 % 256) (l.getD i 0)
  have hw:IntKind.u32.wrap ((bxr (x1 % 256) (l.getD i 0)).toNat:Int) = bxr (x1 % 256) (l.getD i 0):=by
   rw [Int.toNat_of_nonneg hb.1]
   generalize bxr (x1 % 256) (l.getD i 0) = q at *
   simp [IntKind.wrap,IntKind.bits,IntKind.signed];omega
  have ht2:x2 = x32 (x1 / 256) (stepN 8 (bxr (x1 % 256) (l.getD i 0))):=by rw [ht,crcS,tabE,hw];rfl
  have hS:=shifted_tr (bxr (x1 % 256) (l.getD i 0)) 8 (by omega) (by omega)
  generalize stepN 8 (bxr (x1 % 256) (l.getD i 0)) = st at *
  repeat' first|(refine gca ?_;first|(refine ca hS ?_;rintro _ _ ⟨rfl,rfl⟩))|refine x3 ?_|refine x8 ?_|refine u8m ?_|refine q3 ?_|refine w3 ?_|(refine wo ?_;first|(refine ao ?_;first|refine aw ?_|refine oa ?_|refine ipn ?_)|refine oa ?_|refine lnm ?_|refine ixmn ?_|refine lb ?_)|(refine gc ?_;first|refine cf ?_|(refine ci (fun hB=>?_) (fun hB=>?_) <;> try (exfalso;omega)))|refine sq ?_|refine rg ?_|refine xc ?_|refine nl ?_|refine sk ?_|refine bk ?_|refine xb ?_
  exact lp (i + 1) (by omega) (hs:=by rw [hx2,ht2];(repeat (refine Sub.cons rfl (by first | rfl | go_num) ?_));exact Sub.nil)
 ·have hl:l.take i = l:=List.take_of_length_le (by omega)
  rw [hl]
  repeat' first|refine n3 ?_|(refine wo ?_;first|(refine ao ?_;first|refine oa ?_)|refine oa ?_|refine lnm ?_)|(refine gc ?_;first|(refine ci (fun hB=>?_) (fun hB=>?_) <;> try (exfalso;omega)))|refine sq ?_|refine rg ?_|refine xc ?_|refine nl ?_|refine xe ?_|refine rt ?_
  exact r1 ⟨rfl,rfl⟩
theorem crcF_lt (l:List Int):crcF l < 4294967296:=x32_lt _ _
theorem RSeal_tr (b:Value) (l:List Int) (hl:l.length ≤ 1099511627776):Tr Tryz.prog 146 [nP,b] [vw b (By l)] [] fun v D=>v.oneCell' = true∧D = [own TyB v (By (sealF l))]:=by
 have hc0:=crcF_pos l
 have hc1:=crcF_lt l
 have hcg:∀ i,i < 4→(crcB l).take (i + 1) = (crcB l).take i ++ [crcF l / 256 ^ i % 256]:=fun i hi=>by
  rw [take_succ' (by rw [crcB_len];exact hi) 0,crcB_get l hi]
 have hcl:=crcB_len l
 have hs4:sealF l = l ++ (crcB l).take 4:=by unfold sealF;rw [List.take_of_length_le (by omega)]
 have hcd:∀ i:Nat,0 ≤ crcF l / 256 ^ i∧crcF l / 256 ^ i < 4294967296:=fun i=>by
  have h1:(0:Int) < 256 ^ i:=Int.pow_pos (by decide)
  exact ⟨Int.ediv_nonneg hc0 (by omega),by have:=Int.ediv_le_self (256 ^ i:Int) hc0;omega⟩
 have hcs:∀ i:Nat,crcF l / 256 ^ (i + 1) = crcF l / 256 ^ i / 256:=fun i=>by rw [Int.pow_succ,Int.ediv_ediv_of_nonneg (by exact Int.le_of_lt (Int.pow_pos (by decide)))]
 rw [hs4]
 refine Tr.enter env _ Tryz.func146 (by kernel_rfl) rfl Tryz.ntmps146 rfl (by repeat (first | exact has00 | refine has01 ?_)) fun w0=>?_
 repeat' first|(refine gca ?_;first|(refine ca (RSum9_tr b l) ?_;rintro _ _ ⟨rfl,rfl⟩))|(refine sl0 fun v=>?_)|(refine ap (xs:=[]) (news:=By l) (fun v2=>?_) (h1:=By_one _);refine TO.one (v:=v2) (xs:=[] ++ By l) fun h2=>?_)|(refine wo ?_;first|refine oa ?_)|refine sq ?_|refine rg ?_|refine xc ?_|refine nl ?_|refine bk ?_
 refine TC.loop (ι:=Nat × Value) (fun g=>[(7,I g.1),(6,c32 (crcF l / 256 ^ g.1)),(5,g.2)]) (fun g=>[own TyB g.2 (By (l ++ (crcB l).take g.1))]) (fun g=>g.1 ≤ 4∧g.2.oneCell' = true) (fun g=>4 - g.1) (0,v2) [] ⟨Nat.zero_le _,h2⟩ ?_ (hs:=by dsimp only;rw [Int.pow_zero,Int.ediv_one];(repeat (refine Sub.cons rfl (by first | rfl | go_num) ?_));exact Sub.nil) (hf:=by dsimp only;rw [List.take_zero,List.append_nil];exact fitA)
 rintro ⟨i,o⟩ ⟨hi,ho⟩
 dsimp only at hi ho ⊢
 by_cases h:i < 4
 ·have e1:=hcg i h
  have e2:=hcs i
  have e3:=hcd i
  have e4:((crcB l).take i).length ≤ 4:=by rw [List.length_take];omega
  generalize (crcB l).take i = T at *
  generalize crcF l / 256 ^ i = z at *
  repeat' first|refine u8m ?_|refine q3 ?_|(refine umod ?_)|(refine slbz fun v1 hv1=>?_)|(refine apb (l:=l ++ T) fun v3 h3=>?_)|(refine wo ?_;first|(refine ao ?_;first|refine aw ?_|refine oa ?_)|refine oa ?_)|(refine gc ?_;first|(refine ci (fun hB=>?_) (fun hB=>?_) <;> try (exfalso;omega)))|refine sq ?_|refine rg ?_|refine xc ?_|refine nl ?_|refine sk ?_|refine bk ?_|refine xb ?_
  rw [Int.emod_emod_of_dvd z (Int.dvd_refl 256)]
  exact lp (i + 1,v3) ⟨h,h3⟩ (hs:=by dsimp only;rw [e2];(repeat (refine Sub.cons rfl (by first | rfl | go_num) ?_));exact Sub.nil) (hf:=by dsimp only;rw [e1,← List.append_assoc];exact fitA)
 ·obtain rfl:i = 4:=by omega
  repeat' first|(refine wo ?_;first|(refine ao ?_;first|refine oa ?_)|refine oa ?_)|(refine gc ?_;first|refine cf ?_)|refine sq ?_|refine rg ?_|refine xc ?_|refine nl ?_|refine xe ?_|refine rt ?_
  exact r1 ⟨ho,rfl⟩
theorem ROpen_tr (b:Value) (l:List Int) (hin:inB l) (hl:l.length ≤ 1099511627776):Tr Tryz.prog 115 [nP,b] [vw b (By l)] []
  fun v D=>∃ o,v = tup2 o (I (openR l).2)∧o.oneCell' = true∧D = [own TyB o (By (openR l).1)]:=by
 by_cases h4:l.length < 4
 ·rw [show openR l = ([],7) from if_pos h4]
  refine Tr.enter env _ Tryz.func115 (by kernel_rfl) rfl Tryz.ntmps115 rfl (by repeat (first | exact has00 | refine has01 ?_)) fun w0=>?_
  have hbl:=By_len l
  repeat' first|(refine ln (xs:=By l) ?_;rw [hbl])|(refine wo ?_;first|(refine ao ?_;first|refine oa ?_)|refine oa ?_)|(refine gc ?_;first|(refine ci (fun hB=>?_) (fun hB=>?_) <;> try (exfalso;omega)))|refine sq ?_|refine rg ?_|refine xc ?_|refine nl ?_|refine rt ?_
  refine TX.im (own_nil TyB _) ?_
  exact r2 ⟨nS,rfl,rfl,rfl⟩
 have hS:=fun (v:Value)=>RSeal_tr v (l.take (l.length - 4)) (by rw [List.length_take];omega)
 have htk:By (l.take (l.length - 4)) = ((By l).take (l.length - 4)).drop 0:=by rw [List.drop_zero,By,By,List.map_take]
 have hin2:inB (sealF (l.take (l.length - 4))):=sealF_in (fun x hx=>hin x (List.mem_of_mem_take hx))
 have hSb:∀ F,Has F (vw b (By l))→Has F (vw (slSub b 0 (l.length - 4)) (By (l.take (l.length - 4)))):=fun F h=>by
  rw [htk];exact has_sub h (Nat.zero_le _) (by rw [By_len];omega)
 refine Tr.enter env _ Tryz.func115 (by kernel_rfl) rfl Tryz.ntmps115 rfl (by repeat (first | exact has00 | refine has01 ?_)) fun w0=>?_
 have hbl:=By_len l
 have e4:(l.length:Int) - 4 = ((l.length - 4:Nat):Int):=by omega
 repeat' first|(refine ln (xs:=By l) ?_;rw [hbl])|(refine aw (m:=((l.length - 4:Nat):Int)) ?_ (h:=by rw [← e4];rfl))|(refine sch (xs:=By l) ?_;rw [Int.toNat_natCast])|(refine wo ?_;first|(refine ao ?_;first|refine oa ?_)|refine oa ?_)|(refine gc ?_;first|(refine ci (fun hB=>?_) (fun hB=>?_) <;> try (exfalso;omega)))|refine sq ?_|refine rg ?_|refine xc ?_|refine nl ?_|refine sk ?_
 refine rs (id:=4) (fun w=>Sl w b (By l)) ?_ (fun w hw=>has_sl hw hasA)
 refine tka 0 ?_
 refine tka 1 ?_
 refine tka 4 ?_
 refine tk 5 (v:=.string (strOfNums l)) (hi:=rfl) (fun w h=>by exact R_bstr (E:=env) rfl rfl rfl rfl h) ?_
 refine t1 2 ?_
 refine ca (hS (slSub b 0 (l.length - 4))) ?_ (hp:=has1 (hSb _ hasA) has0)
 rintro o _ ⟨ho,rfl⟩
 refine nl ?_
 refine te (fun w hw=>has_sl hw hasA) ?_
 refine t1 3 ?_
 refine bst (l:=sealF (l.take (l.length - 4))) ?_
 refine nl ?_
 refine te (fun w hw=>has_sl hw hasA) ?_
 refine t1 6 ?_
 refine sne_ (l:=sealF (l.take (l.length - 4))) (l':=l) ?_
 refine nl ?_
 refine te (fun w hw=>has_sl hw hasA) ?_
 refine t0 ?_
 have htl:(l.take (l.length - 4)).length ≤ 1099511627776:=by rw [List.length_take];omega
 by_cases he:sealF (l.take (l.length - 4)) = l
 ·rw [show openR l = (l.take (l.length - 4),0) by unfold openR;rw [if_neg h4,if_pos he],decide_eq_true he]
  repeat' first|(refine sl0 fun v=>?_)|(refine ap (xs:=[]) (news:=By (l.take (l.length - 4))) (fun v2=>?_) (h1:=By_one _) (hu:=hSb _ hasA);refine TO.one (v:=v2) (xs:=[] ++ By (l.take (l.length - 4))) fun h2=>?_)|(refine wo ?_;first|refine oa ?_)|(refine gc ?_;first|refine cf ?_)|refine sq ?_|refine rg ?_|refine xc ?_|refine nl ?_|refine sk ?_|refine rt ?_
  exact r2 ⟨v2,rfl,h2,rfl⟩
 ·rw [show openR l = ([],8) by unfold openR;rw [if_neg h4,if_neg he],decide_eq_false he]
  repeat' first|(refine wo ?_;first|refine oa ?_)|(refine gc ?_;first|refine ct ?_)|refine sq ?_|refine rg ?_|refine xc ?_|refine nl ?_|refine rt ?_
  refine TX.im (own_nil TyB _) ?_
  exact r2 ⟨nS,rfl,rfl,rfl⟩
end Go.Art
namespace Go.Art
open Go Go.Proofs Go.RowKit
theorem R_shlm {P:Program} {n:Sh} {fr:Fr} {x y:Operand} {t t' ty:TypeId} {k k':IntKind} {m c:Int} {w:World} (hx:ev fr x = some (.int k m)) (hy:ev fr y = some (.int k' c)) (hc:0 ≤ c∧c ≤ k.bits):OpV P n fr (.binOp .shl t x y t') ty w (.int k (k.wrap (m * 2 ^ c.toNat))) w:=⟨fun a ha _ _ _ _=>by
 have hg:(eqGuard .shl t x y (.int k m) (.int k' c)).run P w = .ok () w:=rfl
 have h1:¬ c < 0:=by omega
 have h2:min c.toNat k.bits = c.toNat:=by omega
 simp only [execOp,ha.ev hx,ha.ev hy]
 simp only [hg,Sem.run_bind,Result.andThen_ok]
 show (Result.andThen ((binOp .shl t (.int k m) (.int k' c)).run P w) _) = _
 simp only [binOp,Op.shift,h1,if_false]
 show Result.ok (Next.value (.int k (k.wrap (m * (2 ^ (min c.toNat k.bits)))))) w = _
 rw [h2]⟩
section
variable {P:Program} {E:Env P} {n:Sh} {X:Cx} {s:List K} {fr:Fr} {A:List Ch} {ops:Array Oper} {rest:List Oper} {d:Nat} {ty t t':TypeId} {pos:String} {after:Array Edge} {x y:Operand} {m:Int}
end
theorem pk1 {sn bn pn rn:Int} {len:Nat}:pkOk 1 sn bn pn rn len ↔ (0 ≤ sn∧sn ≤ 4294967295)∧(0 ≤ bn∧bn ≤ 4294967295)∧(0 ≤ pn∧pn ≤ 4294967295)∧(1 ≤ len∧len ≤ 65535)∧rn = 0:=by
 simp [pkOk,frmB,frmD,frmR];omega
theorem pk2 {sn bn pn rn:Int} {len:Nat}:pkOk 2 sn bn pn rn len ↔ (0 ≤ sn∧sn ≤ 4294967295)∧(0 ≤ bn∧bn ≤ 4294967295)∧pn = 0∧len = 0∧rn = 0:=by
 simp [pkOk,frmB,frmD,frmR];omega
theorem pk3 {sn bn pn rn:Int} {len:Nat}:pkOk 3 sn bn pn rn len ↔ (0 ≤ sn∧sn ≤ 4294967295)∧bn = 0∧pn = 0∧len = 0∧rn = 0:=by
 simp [pkOk,frmB,frmD,frmR];omega
theorem pk4 {sn bn pn rn:Int} {len:Nat}:pkOk 4 sn bn pn rn len ↔ (0 ≤ sn∧sn ≤ 4294967295)∧bn = 0∧pn = 0∧len = 0∧1 ≤ rn∧rn ≤ 15:=by
 simp [pkOk,frmB,frmD,frmR];omega
theorem pk5 {sn bn pn rn:Int} {len:Nat}:pkOk 5 sn bn pn rn len ↔ (0 ≤ sn∧sn ≤ 4294967295)∧bn = 0∧pn = 0∧(1 ≤ len∧len ≤ 65535)∧rn = 0:=by
 simp [pkOk,frmB,frmD,frmR];omega
def numB (n:Int):Bool:=decide (0 ≤ n∧n ≤ 4294967295)
def datB (n:Nat):Bool:=decide (1 ≤ n∧n ≤ 65535)
def sndR (kd sn bn pn rn:Int) (n:Nat):Bool:=decide (pkOk kd sn bn pn rn n) && (if kd = 4 then decide (rn < 8) else decide (kd = 1) || decide (kd = 5))
attribute [local irreducible] Fit pt own ro vw mpc lpt vels rels mow lrc dfr
attribute [local irreducible] lmp lme mit velg relg
theorem number11_tr (n:Int):Tr Tryz.prog 147 [I n] [] [] fun v D=>v = .bool (numB n)∧D = []:=by
 refine Tr.enter env _ Tryz.func147 (by kernel_rfl) rfl Tryz.ntmps147 rfl (by repeat (first | exact has00 | refine has01 ?_)) fun w0=>?_
 repeat' first|(refine wo ?_;first|(refine ao ?_;first|refine oa ?_)|refine oa ?_|refine gy ?_|refine gn ?_|(refine gsi (fun hB=>?_) (fun hB=>?_) <;> try (exfalso;omega)))|refine sq ?_|refine rg ?_|refine xc ?_|refine nl ?_|refine rt ?_
 all_goals refine r1 ⟨?_,rfl⟩
 all_goals unfold numB
 all_goals first
  | rw [decide_eq_false (by omega)]
  | (congr 1;exact decide_eq_decide.2 ⟨fun h=>by omega,fun h=>by omega⟩)
theorem data11_tr (b:Value) (l:List Int):Tr Tryz.prog 148 [b] [vw b (By l)] [] fun v D=>v = .bool (datB l.length)∧D = []:=by
 refine Tr.enter env _ Tryz.func148 (by kernel_rfl) rfl Tryz.ntmps148 rfl (by repeat (first | exact has00 | refine has01 ?_)) fun w0=>?_
 have hbl:=By_len l
 repeat' first|(refine ln (xs:=By l) ?_;rw [hbl])|(refine wo ?_;first|(refine ao ?_;first|refine oa ?_)|refine oa ?_|refine gy ?_|refine gn ?_|(refine gsi (fun hB=>?_) (fun hB=>?_) <;> try (exfalso;omega)))|refine sq ?_|refine rg ?_|refine xc ?_|refine nl ?_|refine rt ?_
 all_goals refine r1 ⟨?_,rfl⟩
 all_goals unfold datB
 all_goals first
  | rw [decide_eq_false (by omega)]
  | (congr 1;exact decide_eq_decide.2 ⟨fun h=>by omega,fun h=>by omega⟩)
set_option maxHeartbeats 8000000 in
theorem RCheck11_tr (kd sn bn pn rn:Int) (dv:Value) (l:List Int) (hd:dv.oneCell' = true):Tr Tryz.prog 117 [.agg #[I kd,I sn,I bn,I pn,I rn,dv]] [vw dv (By l)] [] fun v D=>v = I (pkE kd sn bn pn rn l.length)∧D = []:=by
 have hbl:=By_len l
 have hD:=data11_tr dv l
 have hN:=number11_tr
 have hn1:∀ n,numB n = true→0 ≤ n∧n ≤ 4294967295:=fun n h=>of_decide_eq_true h
 have hn2:∀ n,numB n = false→¬ (0 ≤ n∧n ≤ 4294967295):=fun n h=>of_decide_eq_false h
 have hd1:datB l.length = true→1 ≤ l.length∧l.length ≤ 65535:=fun h=>of_decide_eq_true h
 have hd2:datB l.length = false→¬ (1 ≤ l.length∧l.length ≤ 65535):=fun h=>of_decide_eq_false h
 by_cases k1:kd = 1
 ·subst k1
  refine Tr.enter env _ Tryz.func117 (by kernel_rfl) rfl Tryz.ntmps117 rfl (by repeat (first | exact has00 | refine has01 ?_)) fun w0=>?_
  repeat' first|(refine gca ?_;first|(refine ca (hN sn) ?_;rintro _ _ ⟨rfl,rfl⟩)|(refine ca (hN bn) ?_;rintro _ _ ⟨rfl,rfl⟩)|(refine ca hD ?_;rintro _ _ ⟨rfl,rfl⟩))|refine bx fun b=>?_|(refine qln (xs:=By l) ?_;rw [hbl])|(refine qca (v:=.bool (numB bn)) (hN bn) (fun u D h=>h) ?_)|(refine qca (v:=.bool (numB pn)) (hN pn) (fun u D h=>h) ?_)|(refine qca (v:=.bool (datB l.length)) hD (fun u D h=>h) ?_)|(refine wo ?_;first|(refine ao ?_;first|refine oa ?_)|refine oa ?_|refine ld ?_|refine gy ?_|refine gn ?_|(refine gsn (fun hB=>?_) (fun hB=>?_) <;> try (exfalso;omega)))|(refine gc ?_;first|refine ct ?_|(refine cn (fun hB=>?_) (fun hB=>?_) <;> try (exfalso;omega)))|refine sq ?_|refine rg ?_|refine xc ?_|refine nl ?_|refine sk ?_|refine bk ?_|refine rt ?_|refine xb ?_|refine rq ?_|refine nq ?_|(refine wq ?_;first|(refine qao ?_;first|refine qa ?_)|refine qa ?_|refine qld ?_)
  all_goals refine r1 ⟨?_,rfl⟩
  all_goals first
   | rw [pkE,if_neg (fun h=>by have:=pk1.1 h;omega)]
   | rw [pkE,if_pos (pk1.2 (by omega))]
 by_cases k2:kd = 2
 ·subst k2
  refine Tr.enter env _ Tryz.func117 (by kernel_rfl) rfl Tryz.ntmps117 rfl (by repeat (first | exact has00 | refine has01 ?_)) fun w0=>?_
  repeat' first|(refine gca ?_;first|(refine ca (hN sn) ?_;rintro _ _ ⟨rfl,rfl⟩)|(refine ca (hN bn) ?_;rintro _ _ ⟨rfl,rfl⟩)|(refine ca hD ?_;rintro _ _ ⟨rfl,rfl⟩))|refine bx fun b=>?_|(refine qln (xs:=By l) ?_;rw [hbl])|(refine qca (v:=.bool (numB bn)) (hN bn) (fun u D h=>h) ?_)|(refine qca (v:=.bool (numB pn)) (hN pn) (fun u D h=>h) ?_)|(refine qca (v:=.bool (datB l.length)) hD (fun u D h=>h) ?_)|(refine wo ?_;first|(refine ao ?_;first|refine oa ?_)|refine oa ?_|refine ld ?_|refine gy ?_|refine gn ?_|(refine gsn (fun hB=>?_) (fun hB=>?_) <;> try (exfalso;omega)))|(refine gc ?_;first|refine ct ?_|refine cf ?_|(refine cn (fun hB=>?_) (fun hB=>?_) <;> try (exfalso;omega)))|refine sq ?_|refine rg ?_|refine xc ?_|refine nl ?_|refine sk ?_|refine bk ?_|refine rt ?_|refine xb ?_|refine rq ?_|refine nq ?_|(refine wq ?_;first|(refine qao ?_;first|refine qa ?_)|refine qa ?_|refine qld ?_)
  all_goals refine r1 ⟨?_,rfl⟩
  all_goals first
   | rw [pkE,if_neg (fun h=>by have:=pk2.1 h;omega)]
   | rw [pkE,if_pos (pk2.2 (by omega))]
 by_cases k3:kd = 3
 ·subst k3
  refine Tr.enter env _ Tryz.func117 (by kernel_rfl) rfl Tryz.ntmps117 rfl (by repeat (first | exact has00 | refine has01 ?_)) fun w0=>?_
  repeat' first|(refine gca ?_;first|(refine ca (hN sn) ?_;rintro _ _ ⟨rfl,rfl⟩)|(refine ca (hN bn) ?_;rintro _ _ ⟨rfl,rfl⟩)|(refine ca hD ?_;rintro _ _ ⟨rfl,rfl⟩))|refine bx fun b=>?_|(refine qln (xs:=By l) ?_;rw [hbl])|(refine qca (v:=.bool (numB bn)) (hN bn) (fun u D h=>h) ?_)|(refine qca (v:=.bool (numB pn)) (hN pn) (fun u D h=>h) ?_)|(refine qca (v:=.bool (datB l.length)) hD (fun u D h=>h) ?_)|(refine wo ?_;first|(refine ao ?_;first|refine oa ?_)|refine oa ?_|refine ld ?_|refine gy ?_|refine gn ?_|(refine gsn (fun hB=>?_) (fun hB=>?_) <;> try (exfalso;omega)))|(refine gc ?_;first|refine ct ?_|refine cf ?_|(refine cn (fun hB=>?_) (fun hB=>?_) <;> try (exfalso;omega)))|refine sq ?_|refine rg ?_|refine xc ?_|refine nl ?_|refine sk ?_|refine bk ?_|refine rt ?_|refine xb ?_|refine rq ?_|refine nq ?_|(refine wq ?_;first|(refine qao ?_;first|refine qa ?_)|refine qa ?_|refine qld ?_)
  all_goals refine r1 ⟨?_,rfl⟩
  all_goals first
   | rw [pkE,if_neg (fun h=>by have:=pk3.1 h;omega)]
   | rw [pkE,if_pos (pk3.2 (by omega))]
 by_cases k4:kd = 4
 ·subst k4
  refine Tr.enter env _ Tryz.func117 (by kernel_rfl) rfl Tryz.ntmps117 rfl (by repeat (first | exact has00 | refine has01 ?_)) fun w0=>?_
  repeat' first|(refine gca ?_;first|(refine ca (hN sn) ?_;rintro _ _ ⟨rfl,rfl⟩)|(refine ca (hN bn) ?_;rintro _ _ ⟨rfl,rfl⟩)|(refine ca hD ?_;rintro _ _ ⟨rfl,rfl⟩))|refine bx fun b=>?_|(refine qln (xs:=By l) ?_;rw [hbl])|(refine qca (v:=.bool (numB bn)) (hN bn) (fun u D h=>h) ?_)|(refine qca (v:=.bool (numB pn)) (hN pn) (fun u D h=>h) ?_)|(refine qca (v:=.bool (datB l.length)) hD (fun u D h=>h) ?_)|(refine wo ?_;first|(refine ao ?_;first|refine oa ?_)|refine oa ?_|refine ld ?_|refine gy ?_|refine gn ?_|(refine gsi (fun hB=>?_) (fun hB=>?_) <;> try (exfalso;omega))|(refine gsn (fun hB=>?_) (fun hB=>?_) <;> try (exfalso;omega)))|(refine gc ?_;first|refine ct ?_|refine cf ?_|(refine cn (fun hB=>?_) (fun hB=>?_) <;> try (exfalso;omega)))|refine sq ?_|refine rg ?_|refine xc ?_|refine nl ?_|refine sk ?_|refine bk ?_|refine rt ?_|refine xb ?_|refine rq ?_|refine nq ?_|(refine wq ?_;first|(refine qao ?_;first|refine qa ?_)|refine qa ?_|refine qld ?_)
  all_goals refine r1 ⟨?_,rfl⟩
  all_goals first
   | rw [pkE,if_neg (fun h=>by have:=pk4.1 h;omega)]
   | rw [pkE,if_pos (pk4.2 (by omega))]
 by_cases k5:kd = 5
 ·subst k5
  refine Tr.enter env _ Tryz.func117 (by kernel_rfl) rfl Tryz.ntmps117 rfl (by repeat (first | exact has00 | refine has01 ?_)) fun w0=>?_
  repeat' first|(refine gca ?_;first|(refine ca (hN sn) ?_;rintro _ _ ⟨rfl,rfl⟩)|(refine ca (hN bn) ?_;rintro _ _ ⟨rfl,rfl⟩)|(refine ca hD ?_;rintro _ _ ⟨rfl,rfl⟩))|refine bx fun b=>?_|(refine qln (xs:=By l) ?_;rw [hbl])|(refine qca (v:=.bool (numB bn)) (hN bn) (fun u D h=>h) ?_)|(refine qca (v:=.bool (numB pn)) (hN pn) (fun u D h=>h) ?_)|(refine qca (v:=.bool (datB l.length)) hD (fun u D h=>h) ?_)|(refine wo ?_;first|(refine ao ?_;first|refine oa ?_)|refine oa ?_|refine ld ?_|refine gy ?_|refine gn ?_|(refine gsn (fun hB=>?_) (fun hB=>?_) <;> try (exfalso;omega)))|(refine gc ?_;first|refine ct ?_|refine cf ?_|(refine cn (fun hB=>?_) (fun hB=>?_) <;> try (exfalso;omega)))|refine sq ?_|refine rg ?_|refine xc ?_|refine nl ?_|refine sk ?_|refine bk ?_|refine rt ?_|refine xb ?_|refine rq ?_|refine nq ?_|(refine wq ?_;first|(refine qao ?_;first|refine qa ?_)|refine qa ?_|refine qld ?_)
  all_goals refine r1 ⟨?_,rfl⟩
  all_goals first
   | rw [pkE,if_neg (fun h=>by have:=pk5.1 h;omega)]
   | rw [pkE,if_pos (pk5.2 (by omega))]
 refine Tr.enter env _ Tryz.func117 (by kernel_rfl) rfl Tryz.ntmps117 rfl (by repeat (first | exact has00 | refine has01 ?_)) fun w0=>?_
 repeat' first|refine bx fun b=>?_|(refine qln (xs:=By l) ?_;rw [hbl])|(refine wo ?_;first|(refine ao ?_;first|refine oa ?_)|refine oa ?_|refine ld ?_)|(refine gc ?_;first|(refine ci (fun hB=>?_) (fun hB=>?_) <;> try (exfalso;omega)))|refine sq ?_|refine rg ?_|refine xc ?_|refine nl ?_|refine bk ?_|refine rt ?_|refine rq ?_|refine nq ?_|(refine wq ?_;first|(refine qao ?_;first|refine qa ?_)|refine qa ?_|refine qld ?_)
 refine r1 ⟨?_,rfl⟩
 rw [pkE,if_neg (fun h=>by have:=h.1;omega)]
set_option maxHeartbeats 4000000 in
theorem RSends_tr (kd sn bn pn rn:Int) (dv:Value) (l:List Int) (hd:dv.oneCell' = true):Tr Tryz.prog 74 [.agg #[I kd,I sn,I bn,I pn,I rn,dv]] [vw dv (By l)] [] fun v D=>v = .bool (sndR kd sn bn pn rn l.length)∧D = []:=by
 have hC:=RCheck11_tr kd sn bn pn rn dv l hd
 by_cases hk:pkOk kd sn bn pn rn l.length
 ·rw [show sndR kd sn bn pn rn l.length = (if kd = 4 then decide (rn < 8) else decide (kd = 1) || decide (kd = 5)) by unfold sndR;rw [decide_eq_true hk,Bool.true_and]]
  rw [show pkE kd sn bn pn rn l.length = 0 from if_pos hk] at hC
  have hk1:=hk.1
  refine Tr.enter env _ Tryz.func74 (by kernel_rfl) rfl Tryz.ntmps74 rfl (by repeat (first | exact has00 | refine has01 ?_)) fun w0=>?_
  repeat' first|(refine gca ?_;first|(refine ca hC ?_;rintro _ _ ⟨rfl,rfl⟩))|refine bx fun b=>?_|refine lda ?_|(refine wo ?_;first|(refine ao ?_;first|refine oa ?_)|refine oa ?_|refine ld ?_|refine gy ?_|refine gn ?_|refine gu ?_|(refine gsi (fun hB=>?_) (fun hB=>?_) <;> try (exfalso;omega)))|(refine gc ?_;first|refine cf ?_)|refine sq ?_|refine rg ?_|refine xc ?_|refine nl ?_|refine sk ?_|refine rt ?_
  all_goals refine r1 ⟨?_,rfl⟩
  all_goals first
   | (rw [if_neg (by omega),decide_eq_true (show kd = 1 by omega)];rfl)
   | (rw [if_neg (by omega),decide_eq_false (show ¬ kd = 1 by omega),decide_eq_true (show kd = 5 by omega)];rfl)
   | (rw [if_neg (by omega),decide_eq_false (show ¬ kd = 1 by omega),decide_eq_false (show ¬ kd = 5 by omega)];rfl)
   | rw [if_pos (by omega)]
 ·rw [show sndR kd sn bn pn rn l.length = false by unfold sndR;rw [decide_eq_false hk,Bool.false_and]]
  rw [show pkE kd sn bn pn rn l.length = 2 from if_neg hk] at hC
  refine Tr.enter env _ Tryz.func74 (by kernel_rfl) rfl Tryz.ntmps74 rfl (by repeat (first | exact has00 | refine has01 ?_)) fun w0=>?_
  repeat' first|(refine gca ?_;first|(refine ca hC ?_;rintro _ _ ⟨rfl,rfl⟩))|refine bx fun b=>?_|refine lda ?_|(refine wo ?_;first|(refine ao ?_;first|refine oa ?_)|refine oa ?_)|(refine gc ?_;first|refine ct ?_)|refine sq ?_|refine rg ?_|refine xc ?_|refine nl ?_|refine rt ?_
  exact r1 ⟨rfl,rfl⟩
theorem four_tr (n:Int) (h:0 ≤ n∧n ≤ 4294967295):Tr Tryz.prog 157 [I n] [] [] fun v D=>v.oneCell' = true∧D = [own TyB v (By (beB 4 n))]:=by
 have e:beB 4 n = [n / 16777216 % 256,n / 65536 % 256,n / 256 % 256,n % 256]:=by
  simp [beB]
 rw [e]
 refine Tr.enter env _ Tryz.func157 (by kernel_rfl) rfl Tryz.ntmps157 rfl (by repeat (first | exact has00 | refine has01 ?_)) fun w0=>?_
 repeat' first|refine u8m ?_|refine slbz fun v hv=>?_|(refine wo ?_;first|(refine ao ?_;first|refine shr ?_)|refine oa ?_)|refine sq ?_|refine rg ?_|refine xc ?_|refine nl ?_|refine rt ?_
 exact r1 ⟨hv,rfl⟩
end Go.Art
namespace Go.Art
open Go Go.Proofs Go.RowKit
def tk4 (l:List Int):(Int × List Int) × Bool:=if l.length < 4 then ((0,[]),false) else ((l.getD 0 0 * 16777216 + l.getD 1 0 * 65536 + l.getD 2 0 * 256 + l.getD 3 0,l.drop 4),true)
def tkIf (b:Bool) (l:List Int):(Int × List Int) × Bool:=if b then tk4 l else ((0,l),true)
def tkR (b:Bool) (l:List Int):Int × List Int:=if b = true∧0 < l.length then (l.getD 0 0,l.drop 1) else (0,l)
def rg1 (c:List Int):=tk4 (c.drop 1)
def rg2 (c:List Int):(Int × List Int) × Bool:=if (rg1 c).2 then tkIf (frmB (c.getD 0 0)) (rg1 c).1.2 else ((0,(rg1 c).1.2),false)
def rg3 (c:List Int):(Int × List Int) × Bool:=if (rg2 c).2 then tkIf (decide (c.getD 0 0 = 1)) (rg2 c).1.2 else ((0,(rg2 c).1.2),false)
def rg4 (c:List Int):Int × List Int:=if (rg3 c).2 then tkR (decide (c.getD 0 0 = 4)) (rg3 c).1.2 else (0,(rg3 c).1.2)
def rgB (c:List Int):PkS × Int:=if c = [] then (PkS.zero,6) else
 if (rg3 c).2 = true∧pkOk (c.getD 0 0) (rg1 c).1.1 (rg2 c).1.1 (rg3 c).1.1 (rg4 c).1 (rg4 c).2.length then (⟨c.getD 0 0,(rg1 c).1.1,(rg2 c).1.1,(rg3 c).1.1,(rg4 c).1,(rg4 c).2⟩,0) else (PkS.zero,6)
theorem getR_bad {B:List Int} {s:RdS} (h:s.fe ≠ 0) (w:Int):getR B s w = (0,s):=by
 unfold getR takesR
 rw [if_neg h];rfl
theorem beV_four (a b c d:Int):beV [a,b,c,d] = a * 16777216 + b * 65536 + c * 256 + d:=by
 simp only [beV,List.foldl];omega
theorem getR_at {B:List Int} (n w:Nat) (hw:w = 1∨w = 4) (hn:n ≤ B.length) (hin:inB B) (fa:Int) :
  getR B ⟨n,0,fa⟩ w = if B.length - n < w then (0,⟨n,7,B.length⟩) else (beV ((B.drop n).take w),⟨(n + w:Nat),0,fa⟩):=by
 have hb:wideB (w:Int) = true:=by rcases hw with rfl | rfl <;> rfl
 have h0:(0:Int) ≤ w:=by omega
 unfold getR
 rw [hb]
 by_cases h:B.length - n < w
 ·rw [if_pos h]
  have e:takesR B ⟨n,0,fa⟩ w true = ([],⟨n,7,B.length⟩):=by
   unfold takesR
   rw [if_pos rfl,if_pos ⟨rfl,h0⟩,if_pos (by dsimp only;omega)]
  rw [e];rfl
 ·rw [if_neg h]
  have e:takesR B ⟨n,0,fa⟩ w true = ((B.drop n).take w,⟨(n + w:Nat),0,fa⟩):=by
   unfold takesR
   rw [if_pos rfl,if_pos ⟨rfl,h0⟩,if_neg (by dsimp only;omega)]
   dsimp only
   rw [show ((n:Int) + (w:Int)).toNat = n + w by omega,show ((n:Int)).toNat = n by omega,List.drop_take,show n + w - n = w by omega,Int.natCast_add]
  rw [e]
  have hbb:=beV_bound (l:=(B.drop n).take w) (fun x hx=>hin x (List.mem_of_mem_drop (List.mem_of_mem_take hx)))
  have hl:((B.drop n).take w).length = w:=by rw [List.length_take,List.length_drop];omega
  rw [hl] at hbb
  rw [if_pos (by rcases hw with rfl | rfl <;> simp at hbb <;> dsimp only <;> omega)]
theorem take_four {r:List Int} (h:¬ r.length < 4):r.take 4 = [r.getD 0 0,r.getD 1 0,r.getD 2 0,r.getD 3 0]:=by
 match r,h with
 | a :: b :: c :: d :: r,_=>rfl
 | [],h=>simp at h
 | [_],h=>simp at h
 | [_,_],h=>simp at h
 | [_,_,_],h=>simp at h
theorem get4_at {B:List Int} (n:Nat) (hn:n ≤ B.length) (hin:inB B) (fa:Int) :
  ((tk4 (B.drop n)).2 = false∧∃ s,getR B ⟨n,0,fa⟩ 4 = (0,s)∧s.fe ≠ 0) ∨
  ((tk4 (B.drop n)).2 = true∧getR B ⟨n,0,fa⟩ 4 = ((tk4 (B.drop n)).1.1,⟨(n + 4:Nat),0,fa⟩)∧(tk4 (B.drop n)).1.2 = B.drop (n + 4)∧n + 4 ≤ B.length):=by
 have hl:(B.drop n).length = B.length - n:=List.length_drop ..
 have h:=getR_at (B:=B) n 4 (.inr rfl) hn hin fa
 unfold tk4
 by_cases h4:B.length - n < 4
 ·rw [if_pos h4] at h
  rw [if_pos (by omega)]
  exact .inl ⟨rfl,_,h,by dsimp only;omega⟩
 ·rw [if_neg h4] at h
  rw [if_neg (by omega)]
  refine .inr ⟨rfl,?_,List.drop_drop ..,by omega⟩
  rw [take_four (by omega),beV_four] at h
  exact h
theorem pkZ (c:List Int) (h:endR c (gd c).2 ≠ (0,0)):bodyR c = (PkS.zero,6):=by
 unfold bodyR
 split
 ·rw [if_neg fun g=>h g.1]
 ·rfl
theorem end_bad {B:List Int} {s:RdS} (h:s.fe ≠ 0):endR B s ≠ (0,0):=by
 unfold endR
 rw [if_neg fun g=>h g.1]
 exact fun g=>h (congrArg Prod.fst g)
theorem takes_bad {B:List Int} {s:RdS} (h:s.fe ≠ 0) (n:Int) (b:Bool):takesR B s n b = ([],s):=if_neg h
theorem gd_bad {B:List Int} (h:(gr B).2.fe ≠ 0):(gd B).2.fe ≠ 0:=by
 unfold gd
 cases frmD (gk B).1
 ·exact h
 ·rw [cond_true,takes_bad h];exact h
theorem gIf_bad {B:List Int} {s:RdS} (h:s.fe ≠ 0) (b:Bool) (w:Int):(gIf b B s w).2.fe ≠ 0:=by
 unfold gIf
 cases b
 ·exact h
 ·rw [cond_true,getR_bad h];exact h
theorem end_at {B:List Int} (n:Nat) (h:n ≤ B.length):endR B ⟨n,0,0⟩ = (0,0) ↔ B.drop n = []:=by
 unfold endR
 rw [List.drop_eq_nil_iff]
 dsimp only
 constructor
 ·intro g
  rcases Nat.lt_or_ge n B.length with hl | hl
  ·rw [if_pos ⟨rfl,by omega⟩] at g;simp at g
  ·exact hl
 ·intro g
  rw [if_neg (by omega)]
theorem takes_rest {B:List Int} (n:Nat) (h:n ≤ B.length):takesR B ⟨n,0,0⟩ (restR B ⟨n,0,0⟩) true = (B.drop n,⟨B.length,0,0⟩):=by
 unfold takesR restR
 rw [if_pos rfl,if_pos rfl,if_pos ⟨rfl,by dsimp only;omega⟩,if_neg (by dsimp only;omega)]
 dsimp only
 rw [show ((n:Int) + ((B.length:Int) - n)).toNat = B.length by omega,List.take_length,show ((n:Int)).toNat = n by omega,show (n:Int) + ((B.length:Int) - n) = B.length by omega]
theorem pk_nod {k sn bn pn rn:Int} {n:Nat} (h:frmD k = false) (hp:pkOk k sn bn pn rn n):n = 0:=by
 have:=hp.2.2.2.2.1
 rw [h] at this
 simp only [cond_false] at this
 omega
theorem rg_nod {B:List Int} {k sn bn pn rn:Int} {n:Nat} {s:RdS} {is:Bool} {l:List Int} {x:Int × List Int} (h:frmD k = false) (he:endR B s = (0,0) ↔ B.drop n = []) (hi:is = true:=by rfl) (hx:x = (rn,B.drop n):=by rfl) (hl:l = []:=by rfl) :
  (if is = true∧pkOk k sn bn pn x.1 x.2.length then ((⟨k,sn,bn,pn,x.1,x.2⟩ : PkS),(0:Int)) else (PkS.zero,6)) = if endR B s = (0,0)∧pkOk k sn bn pn rn l.length then (⟨k,sn,bn,pn,rn,l⟩,0) else (PkS.zero,6):=by
 subst hi hx hl
 dsimp only
 by_cases hd:B.drop n = []
 ·rw [he.2 hd,hd];simp
 ·rw [if_neg fun g=>hd (List.eq_nil_of_length_eq_zero (pk_nod h g.2)),if_neg fun g=>hd (he.1 g.1)]
theorem rgB_eq {c:List Int} (hin:inB c):rgB c = bodyR c:=by
 cases c with
 | nil=>rfl
 | cons k r=>
  have e0:getR (k :: r) rs0 1 = (k,⟨1,0,0⟩):=by
   have:=getR_at (B:=k :: r) 0 1 (.inl rfl) (Nat.zero_le _) hin 0
   rw [if_neg (by simp)] at this
   simpa [rs0,beV] using this
  have e1:gk (k :: r) = (k,⟨1,0,0⟩):=e0
  have g1:=get4_at (B:=k :: r) 1 (by simp) hin 0
  have hs:gs_ (k :: r) = getR (k :: r) ⟨1,0,0⟩ 4:=by unfold gs_;rw [e1]
  have hk:(k :: r).getD 0 0 = k:=rfl
  unfold rgB
  rw [if_neg (by simp),hk]
  have hd1:(k :: r).drop 1 = r:=rfl
  have er1:rg1 (k :: r) = tk4 r:=rfl
  rw [show ((1:Nat):Int) = 1 from rfl] at g1
  rw [hd1] at g1
  by_cases hk5:1 ≤ k∧k ≤ 5
  rotate_left
  ·rw [if_neg fun g=>hk5 g.2.1]
   unfold bodyR
   rw [e1,if_neg hk5]
  rcases g1 with ⟨f1,s1,g1,hb⟩ | ⟨f1,g1,r1,n1⟩
  ·have hz:(rg3 (k :: r)).2 = false:=by
    unfold rg3 rg2;rw [er1,f1];rfl
   rw [hz,if_neg (by simp)]
   refine (pkZ _ (end_bad (gd_bad ?_))).symm
   unfold gr gp gb
   rw [hs,g1]
   exact gIf_bad (gIf_bad (gIf_bad hb _ _) _ _) _ _
  have hgs:gs_ (k :: r) = ((tk4 r).1.1,⟨(5:Nat),0,0⟩):=by rw [hs,g1]
  have hr1:(rg1 (k :: r)).1.2 = (k :: r).drop 5:=r1
  have n5:5 ≤ (k :: r).length:=n1
  have hf1:(rg1 (k :: r)).2 = true:=f1
  have hrs:(rg1 (k :: r)).1.1 = (tk4 r).1.1:=rfl
  generalize (tk4 r).1.1 = sn at *
  generalize hB:k :: r = B at *
  have g2:=get4_at (B:=B) 5 n5 hin 0
  have hb2:gb B = gIf (frmB k) B ⟨(5:Nat),0,0⟩ 4:=by unfold gb;rw [e1,hgs]
  have hbd:bodyR B = if endR B (gd B).2 = (0,0)∧pkOk k sn (gb B).1 (gp B).1 (gr B).1 (gd B).1.length then (⟨k,sn,(gb B).1,(gp B).1,(gr B).1,(gd B).1⟩,0) else (PkS.zero,6):=by
   unfold bodyR gAll
   rw [e1,hgs,if_pos hk5]
  have hp:gp B = gIf (frmB k && frmD k) B (gb B).2 4:=by unfold gp;rw [e1]
  have hr:gr B = gIf (decide (0 < frmR k)) B (gp B).2 1:=by unfold gr;rw [e1]
  have hd:gd B = bif frmD k then takesR B (gr B).2 (restR B (gr B).2) true else ([],(gr B).2):=by unfold gd;rw [e1]
  have q2:rg2 B = tkIf (frmB k) (B.drop 5):=by unfold rg2;rw [hf1,if_pos rfl,hk,hr1]
  have q3:rg3 B = if (rg2 B).2 then tkIf (decide (k = 1)) (rg2 B).1.2 else ((0,(rg2 B).1.2),false):=by unfold rg3;rw [hk]
  have q4:rg4 B = if (rg3 B).2 then tkR (decide (k = 4)) (rg3 B).1.2 else (0,(rg3 B).1.2):=by unfold rg4;rw [hk]
  rw [hrs]
  clear hrs hr1 hf1 hs g1 e0 er1 hgs e1 hk n1 r1 f1 hd1
  clear hB r
  have h5:k = 1∨k = 2∨k = 3∨k = 4∨k = 5:=by omega
  rcases h5 with rfl | rfl | rfl | rfl | rfl
  ·simp only [show frmB 1 = true from rfl,show frmD 1 = true from rfl,show frmR 1 = 0 from rfl,show decide ((1:Int) = 1) = true from rfl,show decide ((1:Int) = 4) = false from rfl,Bool.and_self,show decide ((0:Int) < 0) = false from rfl,gIf,cond_true,cond_false,tkIf,if_true,decide_true] at hb2 hp hr hd q2 q3 q4
   rcases g2 with ⟨f2,s2,g2,hb⟩ | ⟨f2,g2,r2,n2⟩
   ·rw [g2] at hb2
    have hp2:(gp B).2.fe ≠ 0:=by rw [hp,hb2,getR_bad hb];exact hb
    rw [if_neg (by rw [q3,q2,f2];simp)]
    exact (pkZ _ (end_bad (gd_bad (by rw [hr];exact hp2)))).symm
   ·rw [g2] at hb2
    rw [q2,f2,if_pos rfl,r2] at q3
    have g3:=get4_at (B:=B) 9 n2 hin 0
    rw [hb2] at hp
    rcases g3 with ⟨f3,s3,g3,hb⟩ | ⟨f3,g3,r3,n3⟩
    ·have hp2:(gp B).2.fe ≠ 0:=by rw [hp];exact (congrArg (fun z=>z.2.fe ≠ 0) g3).mpr hb
     rw [if_neg (by rw [q3,f3];simp)]
     exact (pkZ _ (end_bad (gd_bad (by rw [hr];exact hp2)))).symm
    ·replace hp:gp B = _:=hp.trans g3
     rw [hp] at hr
     rw [hr] at hd
     replace hd:gd B = _:=hd.trans (takes_rest (13) n3)
     rw [hbd,hd,hr,hp,hb2,q4,q3,q2,f3,if_pos rfl,r3]
     have he:endR B ⟨(B.length:Nat),0,0⟩ = (0,0):=(end_at _ (Nat.le_refl _)).2 (List.drop_length ..)
     simp [tkR,he]
  ·simp only [show frmB 2 = true from rfl,show frmD 2 = false from rfl,show frmR 2 = 0 from rfl,show decide ((2:Int) = 1) = false from rfl,show decide ((2:Int) = 4) = false from rfl,Bool.and_false,show decide ((0:Int) < 0) = false from rfl,gIf,cond_true,cond_false,tkIf,if_true,decide_false,Bool.false_eq_true,if_false] at hb2 hp hr hd q2 q3 q4
   rcases g2 with ⟨f2,s2,g2,hb⟩ | ⟨f2,g2,r2,n2⟩
   ·rw [g2] at hb2
    rw [if_neg (by rw [q3,q2,f2];simp)]
    exact (pkZ _ (end_bad (gd_bad (by rw [hr];show (gp B).2.fe ≠ 0;rw [hp,hb2];exact hb)))).symm
   ·rw [g2] at hb2
    rw [q2,f2,if_pos rfl,r2] at q3
    rw [hb2] at hp
    rw [hp] at hr
    rw [hr] at hd
    have he:=end_at (B:=B) 9 n2
    rw [hbd,hd,hr,hp,hb2,q4,q3,q2]
    exact rg_nod rfl he
  ·simp only [show frmB 3 = false from rfl,show frmD 3 = false from rfl,show frmR 3 = 0 from rfl,show decide ((3:Int) = 1) = false from rfl,show decide ((3:Int) = 4) = false from rfl,Bool.and_false,show decide ((0:Int) < 0) = false from rfl,gIf,cond_true,cond_false,tkIf,if_true,decide_false,Bool.false_eq_true,if_false] at hb2 hp hr hd q2 q3 q4
   rw [q2,if_pos rfl] at q3
   rw [hb2] at hp
   rw [hp] at hr
   rw [hr] at hd
   have he:=end_at (B:=B) 5 n5
   rw [hbd,hd,hr,hp,hb2,q4,q3,q2]
   exact rg_nod rfl he
  ·simp only [show frmB 4 = false from rfl,show frmD 4 = false from rfl,show frmR 4 = 1 from rfl,show decide ((4:Int) = 1) = false from rfl,show decide ((4:Int) = 4) = true from rfl,Bool.and_false,show decide ((0:Int) < 1) = true from rfl,gIf,cond_true,cond_false,tkIf,if_true,decide_false,decide_true,Bool.false_eq_true,if_false] at hb2 hp hr hd q2 q3 q4
   rw [q2,if_pos rfl] at q3
   rw [hb2] at hp
   rw [hp] at hr
   have g6:=getR_at (B:=B) 5 1 (.inl rfl) n5 hin 0
   have hl:(B.drop 5).length = B.length - 5:=List.length_drop ..
   by_cases h1:B.length - 5 < 1
   ·rw [if_pos h1] at g6
    replace hr:gr B = _:=hr.trans g6
    rw [if_neg]
    ·refine (pkZ _ (end_bad (gd_bad ?_))).symm
     rw [hr];dsimp only;omega
    ·rintro ⟨_,h⟩
     have h0:(rg4 B).1 = 0:=by
      rw [q4,q3,if_pos rfl]
      unfold tkR
      rw [if_neg (by dsimp only;omega)]
     rw [h0] at h
     have:=h.2.2.2.2.2.1
     rw [show frmR 4 = 1 from rfl] at this
     omega
   ·rw [if_neg h1] at g6
    replace hr:gr B = _:=hr.trans g6
    rw [hr] at hd
    have he:=end_at (B:=B) 6 (by omega)
    have h1':(B.drop 5).take 1 = [(B.drop 5).getD 0 0]:=by
     match hx:B.drop 5,hl with
     | a :: _,_=>rfl
     | [],hl=>simp at hl;omega
    have e4:rg4 B = ((B.drop 5).getD 0 0,B.drop 6):=by
     rw [q4,q3,if_pos rfl]
     unfold tkR
     rw [if_pos ⟨rfl,by dsimp only;omega⟩]
     dsimp only
     rw [List.drop_drop]
    rw [hbd,hd,hr,hp,hb2,e4,q3,q2,h1']
    rw [show beV [(B.drop 5).getD 0 0] = (B.drop 5).getD 0 0 by simp [beV]]
    exact rg_nod rfl he
  ·simp only [show frmB 5 = false from rfl,show frmD 5 = true from rfl,show frmR 5 = 0 from rfl,show decide ((5:Int) = 1) = false from rfl,show decide ((5:Int) = 4) = false from rfl,Bool.false_and,show decide ((0:Int) < 0) = false from rfl,gIf,cond_true,cond_false,tkIf,if_true,decide_false,Bool.false_eq_true,if_false] at hb2 hp hr hd q2 q3 q4
   rw [q2,if_pos rfl] at q3
   rw [hb2] at hp
   rw [hp] at hr
   rw [hr] at hd
   replace hd:gd B = _:=hd.trans (takes_rest 5 n5)
   rw [hbd,hd,hr,hp,hb2,q4,q3,q2]
   have he:endR B ⟨(B.length:Nat),0,0⟩ = (0,0):=(end_at _ (Nat.le_refl _)).2 (List.drop_length ..)
   simp [tkR,he]
open Go Go.RowKit
theorem Tr.post {P:Program} {f:FuncId} {args:List Value} {pre A:List Ch} {R R':Value→List Ch→Prop} (h:Tr P f args pre A R) (k:∀ v D,R v D→∃ D',R' v D'∧Im D D'∧∀ c ∈ D',∀ b,¬ c.bd b):Tr P f args pre A R':=by
 refine ⟨fun w hw=>(h.run w hw).mono fun v w' ⟨B,hR,hS,hM,_⟩=>?_,h.lent⟩
 obtain ⟨D',hR',hI,hB'⟩:=k v B hR
 refine ⟨D',hR',hI.sat w' hS,⟨hM.os,hM.tape,hM.output,hM.size,hM.block,fun b hb=>hM.wr b (hI.wr b hb),fun b hb=>?_⟩,hB'⟩
 rcases hI.rd b hb with h1 | h1
 ·rcases hM.wr b h1 with h2 | h2
  ·exact .inl h2
  ·exact .inr (.inr h2)
 ·exact hM.rd b h1
end Go.Art
set_option maxRecDepth 2000
namespace Go.Art.Sn
open Go Go.Proofs Go.RowKit Go.Art
theorem turnG_lt (d:List Bool) (b:Nat) (hn:0 < d.length):∀ (r i a:Nat),turnG d b r i = some a→a < d.length∧d.getD a false = false
 | 0,_,_,h=>by cases h
 | r + 1,i,a,h=>by
  unfold turnG at h
  split at h
  ·exact turnG_lt d b hn r _ a h
  ·rename_i hf
   cases h
   exact ⟨Nat.mod_lt _ hn,by simpa using hf⟩
theorem turnO_lt {d:List Bool} {last:Int} {a:Nat} (h:turnO d last = some a):a < d.length∧d.getD a false = false:=by
 by_cases hn:0 < d.length
 ·exact turnG_lt d _ hn _ _ _ h
 ·have:d.length = 0:=by omega
  unfold turnO at h;rw [this] at h;cases h
structure EnH where
 b:Nat
 cv:Value
 ov:Value
 sy:Value
 hs:List Value
structure EnH.ok (e:EnH):Prop where
 cv:e.cv.oneCell' = true
 ov:e.ov.oneCell' = true
attribute [local irreducible] Fit pt own ro vw mpc lpt vels rels mow lrc dfr
attribute [local irreducible] lmp lme mit velg relg
def encC (m:MfS) (d:List Int):Nat→List EnH→List Ch
 | _,[]=>[]
 | j,e :: r=>encP e.b e.cv e.ov e.sy e.hs m.t m.seed j (m.syms d j) ++ encC m d (j + 1) r
theorem encC_app (m:MfS) (d:List Int):∀ (l:List EnH) (j:Nat) (e:EnH),encC m d j (l ++ [e]) = encC m d j l ++ encP e.b e.cv e.ov e.sy e.hs m.t m.seed (j + l.length:Nat) (m.syms d (j + l.length:Nat))
 | [],j,e=>by simp [encC]
 | a :: l,j,e=>by
  have:=encC_app m d l (j + 1) e
  simp only [List.cons_append,encC,this,List.append_assoc,List.length_cons]
  rw [show j + 1 + l.length = j + (l.length + 1) by omega]
theorem encC_mem (m:MfS) (d:List Int):∀ (l:List EnH) (j i:Nat) (e:EnH),l[i]? = some e→∀ c ∈ encP e.b e.cv e.ov e.sy e.hs m.t m.seed (j + i:Nat) (m.syms d (j + i:Nat)),c ∈ encC m d j l
 | [],j,i,e,h=>by simp at h
 | a :: l,j,0,e,h=>by
  obtain rfl:a = e:=by simpa using h
  intro c hc
  exact List.mem_append_left _ hc
 | a :: l,j,i + 1,e,h=>by
  intro c hc
  have:=encC_mem m d l (j + 1) i e (by simpa using h) c (by rw [show j + 1 + i = j + (i + 1) by omega];exact hc)
  exact List.mem_append_right _ this
theorem encC_has {m:MfS} {d:List Int} {l:List EnH} {i:Nat} {e:EnH} (h:l[i]? = some e):∀ x ∈ encL e.b e.cv e.ov e.sy e.hs m.t m.seed (i:Nat) (m.syms d (i:Nat)),∃ c ∈ encC m d 0 l,Has [c] x:=by
 have hm:=encC_mem m d l 0 i e h
 rw [Nat.zero_add] at hm
 have hp:∀ x ∈ encL e.b e.cv e.ov e.sy e.hs m.t m.seed (i:Nat) (m.syms d (i:Nat)),∃ c ∈ encP e.b e.cv e.ov e.sy e.hs m.t m.seed (i:Nat) (m.syms d (i:Nat)),Has [c] x:=by
  intro x hx
  simp only [List.mem_cons,List.not_mem_nil,or_false] at hx
  rcases hx with rfl | rfl | rfl | rfl | rfl
  ·exact ⟨_,List.Mem.head _,by exact hasA⟩
  ·exact ⟨_,List.Mem.tail _ (List.Mem.head _),by exact hasA⟩
  ·exact ⟨_,List.Mem.tail _ (List.Mem.tail _ (List.Mem.head _)),by exact hasA⟩
  ·exact ⟨_,List.Mem.tail _ (List.Mem.tail _ (List.Mem.tail _ (List.Mem.head _))),by exact hasA⟩
  ·exact ⟨_,List.Mem.tail _ (List.Mem.tail _ (List.Mem.tail _ (List.Mem.tail _ (List.Mem.head _)))),by exact hasA⟩
 intro x hx
 obtain ⟨c,hc,hh⟩:=hp x hx
 exact ⟨c,hm c hc,hh⟩
structure SP where
 ses:Int
 bud:Int
 tmo:Int
 last:Int
 sil:Int
 st:Int
 m:MfS
 d:List Int
 sent:List Int
 ack:List Bool
 ob:List Int
structure SH where
 opn:Value
 pts:Value
 ack:Value
 c:Nat
 es:List EnH
def prsL:List EnH→List Int→List (Value × Value)
 | e :: r,n :: q=>(srcV e.b,I n) :: prsL r q
 | _,_=>[]
theorem prsL_get:∀ {es:List EnH} {l:List Int} {i:Nat} {e:EnH} {n:Int},es[i]? = some e→l[i]? = some n→(prsL es l)[i]? = some (srcV e.b,I n)
 | [],_,i,e,n,h,_=>by simp at h
 | _ :: _,[],i,e,n,_,h=>by simp at h
 | a :: r,b :: q,0,e,n,h,h2=>by simp at h h2;subst h;subst h2;rfl
 | a :: r,b :: q,i + 1,e,n,h,h2=>by simpa [prsL] using prsL_get (es:=r) (l:=q) (i:=i) (by simpa using h) (by simpa using h2)
theorem prsL_set:∀ {es:List EnH} {l:List Int} {i:Nat} {e:EnH} (n:Int),es[i]? = some e→(prsL es l).set i (srcV e.b,I n) = prsL es (l.set i n)
 | [],l,i,e,n,h=>by simp at h
 | _ :: _,[],i,e,n,_=>by simp [prsL]
 | a :: r,b :: q,0,e,n,h=>by simp at h;subst h;rfl
 | a :: r,b :: q,i + 1,e,n,h=>by simp [prsL,prsL_set (es:=r) (l:=q) (i:=i) n (by simpa using h)]
abbrev sndP (p:Nat) (h:SH) (s:SP):List Ch:=
 [pt p [I s.ses,I s.bud,I s.tmo,h.opn,h.pts,h.ack,I s.last,I s.sil,I s.st,chv h.c] TSn,own TyB h.opn (By s.ob),prs TPt h.pts (prsL h.es s.sent),own TyO h.ack (Bo s.ack),chp h.c 4 [],frz (encC s.m s.d 0 h.es)]
abbrev sndQ (p:Nat) (h:SH) (s:SP) (o:Value) (os:List Value) (outs:List (List Int)):List Ch:=
 [pt p [I s.ses,I s.bud,I s.tmo,h.opn,h.pts,h.ack,I s.last,I s.sil,I s.st,chv h.c] TSn,own TyB h.opn (By s.ob),prs TPt h.pts (prsL h.es s.sent),own TyO h.ack (Bo s.ack),chp h.c 4 [],frz (encC s.m s.d 0 h.es),own TyV o os,relg y8 os outs]
def SP.alive (s:SP):Prop:=s.st = 1∨s.st = 2
instance (s:SP):Decidable s.alive:=by unfold SP.alive;infer_instance
def SP.tick (s:SP):SP × List (List Int):=
 if s.alive then
  if s.tmo ≤ s.sil + 1 then ({ s with sil:=s.sil + 1,st:=if s.bud = 0 then 4 else 5 },[(putR 4 s.ses 0 0 (if s.bud = 0 then 1 else 2) []).1])
  else match turnO s.ack s.last with
   | none=>({ s with sil:=s.sil + 1 },[(putR 5 s.ses 0 0 0 s.ob).1])
   | some a=>if s.st = 1 then ({ s with sil:=s.sil + 1 },[(putR 5 s.ses 0 0 0 s.ob).1])
    else if 0 < s.bud then ({ s with sil:=s.sil + 1,bud:=s.bud - 1,last:=a,sent:=s.sent.set a (s.sent.getD a 0 + 1) },[(putR 1 s.ses a (s.sent.getD a 0) 0 (pktW s.m.t (s.m.syms s.d a) s.m.seed a (s.sent.getD a 0)).1).1])
    else ({ s with sil:=s.sil + 1 },[])
 else (s,[])
structure SP.ok (s:SP) (h:SH):Prop where
 n1:s.sent.length = s.ack.length
 n2:h.es.length = s.ack.length
 n3:s.ack.length ≤ 4294967295
 enc:∀ (j:Nat) (e:EnH),h.es[j]? = some e→e.ok∧newE s.m.t j (s.m.syms s.d j) = 0
 bud:0 ≤ s.bud∧s.bud ≤ 2147483647
 tmo:1 ≤ s.tmo∧s.tmo ≤ 2147483647
 sil:0 ≤ s.sil∧s.sil ≤ s.tmo
 last : -1 ≤ s.last∧s.last ≤ 4294967295
 sent:∀ j,0 ≤ s.sent.getD j 0∧s.sent.getD j 0 + s.bud ≤ 2147483647
 alv:s.alive→s.sil < s.tmo
 opn:h.opn.oneCell' = true
theorem one_out {o o1:Value} {l:List Int} {A F:List Ch} (hf:Fit A [own TyV o [o1],own TyB o1 (By l)] F):Im A (own TyV o [o1] :: relg y8 [o1] [l] :: F):=by
 unfold Fit at hf
 refine Im.trans hf (Im.cons _ ?_)
 refine Im.trans (relg_nil (g:=y8) _) ?_
 exact snoc_own (g:=y8) (e:=TyB) (hs:=[]) (ls:=[]) (v:=o1) (l:=l) rfl fitA
theorem one_outO {o o1:Value} {l:List Int} {A F:List Ch} (hf:Fit A [own TyV o [o1],own TyB o1 (By l)] F):Im A (own TyV o [o1] :: owl TyB y8 [o1] [l] :: F):=by
 unfold Fit at hf
 refine Im.trans hf (Im.cons _ ?_)
 refine Im.trans (owl_nil (e:=TyB) (g:=y8) _) ?_
 exact owl_push (g:=y8) (e:=TyB) (hs:=[]) (ls:=[]) (v:=o1) (l:=l) rfl fitA
abbrev sndO (p:Nat) (h:SH) (s:SP) (o:Value) (os:List Value) (outs:List (List Int)):List Ch:=
 [pt p [I s.ses,I s.bud,I s.tmo,h.opn,h.pts,h.ack,I s.last,I s.sil,I s.st,chv h.c] TSn,own TyB h.opn (By s.ob),prs TPt h.pts (prsL h.es s.sent),own TyO h.ack (Bo s.ack),chp h.c 4 [],frz (encC s.m s.d 0 h.es),own TyV o os,owl TyB y8 os outs]
theorem TickO_tr (p:Nat) (h:SH) (s:SP) (hk:s.ok h):Tr Tryz.prog 30 [ptr p] [] (sndP p h s)
  fun v D=>∃ o os,v = tup2 o (I 0)∧o.oneCell' = true∧os.length = s.tick.2.length∧D = sndO p h s.tick.1 o os s.tick.2:=by
 have hsl:=hk.sil
 have hop:=hk.opn
 have htm:=hk.tmo
 have hla:=hk.last
 by_cases ha:s.alive
 rotate_left
 ·rw [show s.tick = (s,[]) from if_neg ha]
  have hal:(decide (s.st = 1) || decide (s.st = 2)) = false:=by
   unfold SP.alive at ha
   rw [decide_eq_false (by omega),decide_eq_false (by omega)];rfl
  refine Tr.enter env _ Tryz.func30 (by kernel_rfl) rfl Tryz.ntmps30 rfl (by repeat (first | exact has00 | refine has01 ?_)) fun w0=>?_
  repeat' first|(refine gca ?_;first|(refine ca (none_tr p s.ses s.bud s.tmo s.last _ s.st h.opn h.pts h.ack h.c) ?_;rintro _ _ ⟨rfl,rfl⟩)|(refine ca (alive_tr p _ _ _ _ _ _ _ _ _ s.st) ?_;rintro _ _ ⟨rfl,rfl⟩;rw [hal])|(refine ca (abort_tr p s.ses s.bud s.tmo s.last _ _ h.opn h.pts h.ack h.c) ?_;rintro _ _ ⟨o1,ho1,rfl⟩)|(refine ca (says_tr p s.ses s.bud s.tmo s.last (s.sil + 1) s.st h.opn h.pts h.ack h.c 5 0 0 0 0 h.opn s.ob hk.opn) ?_;rintro _ _ ⟨o1,ho1,rfl⟩)|(refine ca (sends_tr p s.ses s.bud s.tmo s.last (s.sil + 1) 4 h.opn h.pts h.ack h.c [o1] (one_cons ho1 one_nil) (by simp)) ?_;rintro o _ ⟨ho,rfl⟩)|(refine ca (sends_tr p s.ses s.bud s.tmo s.last (s.sil + 1) 5 h.opn h.pts h.ack h.c [o1] (one_cons ho1 one_nil) (by simp)) ?_;rintro o _ ⟨ho,rfl⟩)|(refine ca (sends_tr p s.ses s.bud s.tmo s.last (s.sil + 1) s.st h.opn h.pts h.ack h.c [o1] (one_cons ho1 one_nil) (by simp)) ?_;rintro o _ ⟨ho,rfl⟩))|refine bdz ?_|(refine wo ?_;first|refine oa ?_)|(refine gc ?_;first|refine ct ?_|refine cf ?_)|refine sq ?_|refine rg ?_|refine xc ?_|refine nl ?_|refine bk ?_|refine rt ?_
  refine TX.im (owl_nil (e:=TyB) (g:=y8) _) ?_
  refine TX.im (own_nil TyV _) ?_
  exact r2 ⟨nS,[],rfl,rfl,rfl,rfl⟩
 have hal:(decide (s.st = 1) || decide (s.st = 2)) = true:=by
  unfold SP.alive at ha
  rcases ha with ha | ha <;> simp [ha]
 have hT:=Turn_tr h.ack s.ack s.last (by omega) (by have:=hk.n3;omega)
 cases hto:turnO s.ack s.last with
 | none=>
  rw [hto] at hT
  have e2:¬ s.tmo ≤ s.sil + 1→s.tick = ({ s with sil:=s.sil + 1 },[(putR 5 s.ses 0 0 0 s.ob).1]):=fun hti=>by rw [SP.tick,if_pos ha,if_neg hti,hto]
  have e1a:s.tmo ≤ s.sil + 1→s.bud = 0→s.tick = ({ s with sil:=s.sil + 1,st:=4 },[(putR 4 s.ses 0 0 1 []).1]):=fun hti hb=>by rw [SP.tick,if_pos ha,if_pos hti,if_pos hb,if_pos hb]
  have e1b:s.tmo ≤ s.sil + 1→¬ s.bud = 0→s.tick = ({ s with sil:=s.sil + 1,st:=5 },[(putR 4 s.ses 0 0 2 []).1]):=fun hti hb=>by rw [SP.tick,if_pos ha,if_pos hti,if_neg hb,if_neg hb]
  refine Tr.enter env _ Tryz.func30 (by kernel_rfl) rfl Tryz.ntmps30 rfl (by repeat (first | exact has00 | refine has01 ?_)) fun w0=>?_
  repeat' first|(refine gca ?_;first|(refine ca (none_tr p s.ses s.bud s.tmo s.last _ s.st h.opn h.pts h.ack h.c) ?_;rintro _ _ ⟨rfl,rfl⟩)|(refine ca (alive_tr p _ _ _ _ _ _ _ _ _ s.st) ?_;rintro _ _ ⟨rfl,rfl⟩;rw [hal])|(refine ca (abort_tr p s.ses s.bud s.tmo s.last _ _ h.opn h.pts h.ack h.c) ?_;rintro _ _ ⟨o1,ho1,rfl⟩)|(refine ca (says_tr p s.ses s.bud s.tmo s.last (s.sil + 1) s.st h.opn h.pts h.ack h.c 5 0 0 0 0 h.opn s.ob hk.opn) ?_;rintro _ _ ⟨o1,ho1,rfl⟩)|(refine ca (sends_tr p s.ses s.bud s.tmo s.last (s.sil + 1) 4 h.opn h.pts h.ack h.c [o1] (one_cons ho1 one_nil) (by simp)) ?_;rintro o _ ⟨ho,rfl⟩)|(refine ca (sends_tr p s.ses s.bud s.tmo s.last (s.sil + 1) 5 h.opn h.pts h.ack h.c [o1] (one_cons ho1 one_nil) (by simp)) ?_;rintro o _ ⟨ho,rfl⟩)|(refine ca (sends_tr p s.ses s.bud s.tmo s.last (s.sil + 1) s.st h.opn h.pts h.ack h.c [o1] (one_cons ho1 one_nil) (by simp)) ?_;rintro o _ ⟨ho,rfl⟩))|refine bdz ?_|(refine wo ?_;first|(refine ao ?_;first|refine aw ?_)|refine oa ?_|refine ld ?_|refine sr ?_)|(refine gc ?_;first|refine cf ?_)|refine sq ?_|refine rg ?_|refine xc ?_|refine nl ?_|refine sk ?_|refine bk ?_|refine xb ?_
  refine rs (fun w=>w.heap[p]? = some (.cells [I s.ses,I s.bud,I s.tmo,h.opn,h.pts,h.ack,I s.last,I (s.sil + 1),I s.st,chv h.c].toArray TSn (0,0))) ?_ (fun w hw=>pt_at memA hw)
  refine tka 0 ?_
  refine tka 1 ?_
  refine tka 2 ?_
  refine tkl 3 (cs:=[I s.ses,I s.bud,I s.tmo,h.opn,h.pts,h.ack,I s.last,I (s.sil + 1),I s.st,chv h.c]) (fun w h=>h) ?_
  refine tka 4 ?_
  refine tka 5 ?_
  refine tka 6 ?_
  refine tkl 7 (cs:=[I s.ses,I s.bud,I s.tmo,h.opn,h.pts,h.ack,I s.last,I (s.sil + 1),I s.st,chv h.c]) (fun w h=>h) ?_
  refine t1 8 ?_
  refine ca hT ?_
  rintro _ _ ⟨rfl,rfl⟩
  unfold turnV
  refine nl ?_
  refine te (fun w hw=>pt_at memA hw) ?_
  refine tka 9 ?_
  refine tka 10 ?_
  refine tka 11 ?_
  refine tka 12 ?_
  refine tka 13 ?_
  refine t0 ?_
  repeat' first|(refine gca ?_;first|(refine ca (none_tr p s.ses s.bud s.tmo s.last _ s.st h.opn h.pts h.ack h.c) ?_;rintro _ _ ⟨rfl,rfl⟩)|(refine ca (alive_tr p _ _ _ _ _ _ _ _ _ s.st) ?_;rintro _ _ ⟨rfl,rfl⟩;rw [hal])|(refine ca (abort_tr p s.ses s.bud s.tmo s.last _ _ h.opn h.pts h.ack h.c) ?_;rintro _ _ ⟨o1,ho1,rfl⟩)|(refine ca (says_tr p s.ses s.bud s.tmo s.last (s.sil + 1) s.st h.opn h.pts h.ack h.c 5 0 0 0 0 h.opn s.ob hk.opn) ?_;rintro _ _ ⟨o1,ho1,rfl⟩)|(refine ca (sends_tr p s.ses s.bud s.tmo s.last (s.sil + 1) 4 h.opn h.pts h.ack h.c [o1] (one_cons ho1 one_nil) (by simp)) ?_;rintro o _ ⟨ho,rfl⟩)|(refine ca (sends_tr p s.ses s.bud s.tmo s.last (s.sil + 1) 5 h.opn h.pts h.ack h.c [o1] (one_cons ho1 one_nil) (by simp)) ?_;rintro o _ ⟨ho,rfl⟩)|(refine ca (sends_tr p s.ses s.bud s.tmo s.last (s.sil + 1) s.st h.opn h.pts h.ack h.c [o1] (one_cons ho1 one_nil) (by simp)) ?_;rintro o _ ⟨ho,rfl⟩))|refine bdz ?_|(refine wo ?_;first|(refine ao ?_;first|refine oa ?_)|refine oa ?_|refine ld ?_|refine sr ?_|refine gy ?_|refine gn ?_|(refine gsi (fun hB=>?_) (fun hB=>?_) <;> try (exfalso;omega)))|(refine gc ?_;first|refine ct ?_|(refine ci (fun hB=>?_) (fun hB=>?_) <;> try (exfalso;omega)))|refine sq ?_|refine rg ?_|refine xc ?_|refine nl ?_|refine sk ?_|refine bk ?_|refine rt ?_|refine xb ?_|refine rq ?_|refine nq ?_|(refine wq ?_;first|(refine qao ?_;first|refine qa ?_)|refine qa ?_|refine qld ?_)
  all_goals first
   | (rw [e1a (by omega) (by omega)];refine TX.im (one_outO (o:=o) (o1:=o1) fitA) ?_;exact r2 ⟨o,[o1],rfl,ho,rfl,rfl⟩)
   | (rw [e1b (by omega) (by omega)];refine TX.im (one_outO (o:=o) (o1:=o1) fitA) ?_;exact r2 ⟨o,[o1],rfl,ho,rfl,rfl⟩)
   | (rw [e2 (by omega)];refine TX.im (one_outO (o:=o) (o1:=o1) fitA) ?_;exact r2 ⟨o,[o1],rfl,ho,rfl,rfl⟩)
 | some a=>
  rw [hto] at hT
  obtain ⟨hal2,_⟩:=turnO_lt hto
  have he:h.es[a]? = some (h.es[a]'(by have:=hk.n2;omega)):=List.getElem?_eq_getElem _
  generalize h.es[a]'(by have:=hk.n2;omega) = e at he
  obtain ⟨⟨hec,heo⟩,hE⟩:=hk.enc a e he
  have hsg:s.sent[a]? = some (s.sent.getD a 0):=by
   have:a < s.sent.length:=by have:=hk.n1;omega
   rw [List.getD_eq_getElem?_getD,List.getElem?_eq_getElem this];rfl
  have hL:=prsL_get he hsg
  have hbd:=hk.bud
  have hsn:=hk.sent a
  have hps:=prsL_set (es:=h.es) (l:=s.sent) (s.sent.getD a 0 + 1) he
  have e2:¬ s.tmo ≤ s.sil + 1→s.st = 1→s.tick = ({ s with sil:=s.sil + 1 },[(putR 5 s.ses 0 0 0 s.ob).1]):=fun hti h1=>by rw [SP.tick,if_pos ha,if_neg hti,hto];dsimp only;rw [if_pos h1]
  have e3:¬ s.tmo ≤ s.sil + 1→¬ s.st = 1→0 < s.bud→s.tick = ({ s with sil:=s.sil + 1,bud:=s.bud - 1,last:=a,sent:=s.sent.set a (s.sent.getD a 0 + 1) },[(putR 1 s.ses a (s.sent.getD a 0) 0 (pktW s.m.t (s.m.syms s.d a) s.m.seed a (s.sent.getD a 0)).1).1]):=fun hti h1 h2=>by rw [SP.tick,if_pos ha,if_neg hti,hto];dsimp only;rw [if_neg h1,if_pos h2]
  have e4:¬ s.tmo ≤ s.sil + 1→¬ s.st = 1→¬ 0 < s.bud→s.tick = ({ s with sil:=s.sil + 1 },[]):=fun hti h1 h2=>by rw [SP.tick,if_pos ha,if_neg hti,hto];dsimp only;rw [if_neg h1,if_neg h2]
  have e1a:s.tmo ≤ s.sil + 1→s.bud = 0→s.tick = ({ s with sil:=s.sil + 1,st:=4 },[(putR 4 s.ses 0 0 1 []).1]):=fun hti hb=>by rw [SP.tick,if_pos ha,if_pos hti,if_pos hb,if_pos hb]
  have e1b:s.tmo ≤ s.sil + 1→¬ s.bud = 0→s.tick = ({ s with sil:=s.sil + 1,st:=5 },[(putR 4 s.ses 0 0 2 []).1]):=fun hti hb=>by rw [SP.tick,if_pos ha,if_pos hti,if_neg hb,if_neg hb]
  generalize s.sent.getD a 0 = sn at *
  refine Tr.enter env _ Tryz.func30 (by kernel_rfl) rfl Tryz.ntmps30 rfl (by repeat (first | exact has00 | refine has01 ?_)) fun w0=>?_
  repeat' first|(refine gca ?_;first|(refine ca (none_tr p s.ses s.bud s.tmo s.last _ s.st h.opn h.pts h.ack h.c) ?_;rintro _ _ ⟨rfl,rfl⟩)|(refine ca (alive_tr p _ _ _ _ _ _ _ _ _ s.st) ?_;rintro _ _ ⟨rfl,rfl⟩;rw [hal])|(refine ca (abort_tr p s.ses s.bud s.tmo s.last _ _ h.opn h.pts h.ack h.c) ?_;rintro _ _ ⟨o1,ho1,rfl⟩)|(refine ca (says_tr p s.ses s.bud s.tmo s.last (s.sil + 1) s.st h.opn h.pts h.ack h.c 5 0 0 0 0 h.opn s.ob hk.opn) ?_;rintro _ _ ⟨o1,ho1,rfl⟩)|(refine ca (sends_tr p s.ses s.bud s.tmo s.last (s.sil + 1) 4 h.opn h.pts h.ack h.c [o1] (one_cons ho1 one_nil) (by simp)) ?_;rintro o _ ⟨ho,rfl⟩)|(refine ca (sends_tr p s.ses s.bud s.tmo s.last (s.sil + 1) 5 h.opn h.pts h.ack h.c [o1] (one_cons ho1 one_nil) (by simp)) ?_;rintro o _ ⟨ho,rfl⟩)|(refine ca (sends_tr p s.ses s.bud s.tmo s.last (s.sil + 1) s.st h.opn h.pts h.ack h.c [o1] (one_cons ho1 one_nil) (by simp)) ?_;rintro o _ ⟨ho,rfl⟩))|refine bdz ?_|(refine wo ?_;first|(refine ao ?_;first|refine aw ?_)|refine oa ?_|refine ld ?_|refine sr ?_)|(refine gc ?_;first|refine cf ?_)|refine sq ?_|refine rg ?_|refine xc ?_|refine nl ?_|refine sk ?_|refine bk ?_|refine xb ?_
  refine rs (fun w=>w.heap[p]? = some (.cells [I s.ses,I s.bud,I s.tmo,h.opn,h.pts,h.ack,I s.last,I (s.sil + 1),I s.st,chv h.c].toArray TSn (0,0))) ?_ (fun w hw=>pt_at memA hw)
  refine tka 0 ?_
  refine tka 1 ?_
  refine tka 2 ?_
  refine tkl 3 (cs:=[I s.ses,I s.bud,I s.tmo,h.opn,h.pts,h.ack,I s.last,I (s.sil + 1),I s.st,chv h.c]) (fun w h=>h) ?_
  refine tka 4 ?_
  refine tka 5 ?_
  refine tka 6 ?_
  refine tkl 7 (cs:=[I s.ses,I s.bud,I s.tmo,h.opn,h.pts,h.ack,I s.last,I (s.sil + 1),I s.st,chv h.c]) (fun w h=>h) ?_
  refine t1 8 ?_
  refine ca hT ?_
  rintro _ _ ⟨rfl,rfl⟩
  unfold turnV
  refine nl ?_
  refine te (fun w hw=>pt_at memA hw) ?_
  refine tka 9 ?_
  refine tka 10 ?_
  refine tka 11 ?_
  refine tka 12 ?_
  refine tka 13 ?_
  refine t0 ?_
  repeat' first|(refine gca ?_;first|(refine ca (none_tr p s.ses s.bud s.tmo s.last _ s.st h.opn h.pts h.ack h.c) ?_;rintro _ _ ⟨rfl,rfl⟩)|(refine ca (alive_tr p _ _ _ _ _ _ _ _ _ s.st) ?_;rintro _ _ ⟨rfl,rfl⟩;rw [hal])|(refine ca (abort_tr p s.ses s.bud s.tmo s.last _ _ h.opn h.pts h.ack h.c) ?_;rintro _ _ ⟨o1,ho1,rfl⟩)|(refine ca (says_tr p s.ses s.bud s.tmo s.last (s.sil + 1) s.st h.opn h.pts h.ack h.c 5 0 0 0 0 h.opn s.ob hk.opn) ?_;rintro _ _ ⟨o1,ho1,rfl⟩)|(refine ca (sends_tr p s.ses s.bud s.tmo s.last (s.sil + 1) 4 h.opn h.pts h.ack h.c [o1] (one_cons ho1 one_nil) (by simp)) ?_;rintro o _ ⟨ho,rfl⟩)|(refine ca (sends_tr p s.ses s.bud s.tmo s.last (s.sil + 1) 5 h.opn h.pts h.ack h.c [o1] (one_cons ho1 one_nil) (by simp)) ?_;rintro o _ ⟨ho,rfl⟩)|(refine ca (sends_tr p s.ses s.bud s.tmo s.last (s.sil + 1) s.st h.opn h.pts h.ack h.c [o1] (one_cons ho1 one_nil) (by simp)) ?_;rintro o _ ⟨ho,rfl⟩)|(refine ca (data_tr p s.ses s.bud s.tmo s.last (s.sil + 1) s.st h.opn h.pts h.ack h.c (prsL h.es s.sent) (encC s.m s.d 0 h.es) a sn e.b e.cv e.ov e.sy e.hs s.m.t s.m.seed (s.m.syms s.d a) hE hec heo hL (encC_has he) (by omega) (by omega)) ?_;rintro _ _ ⟨o1,ho1,rfl⟩)|(refine ca (sends_tr p s.ses (s.bud - 1) s.tmo a (s.sil + 1) s.st h.opn h.pts h.ack h.c [o1] (one_cons ho1 one_nil) (by simp)) ?_;rintro o _ ⟨ho,rfl⟩)|(refine ca (sends_tr p s.ses s.bud s.tmo s.last (s.sil + 1) s.st h.opn h.pts h.ack h.c [] one_nil (by simp)) ?_;rintro o _ ⟨ho,rfl⟩))|refine bdz ?_|(refine wo ?_;first|(refine ao ?_;first|refine oa ?_)|refine oa ?_|refine ld ?_|refine sr ?_|refine gy ?_|refine gn ?_|(refine gsi (fun hB=>?_) (fun hB=>?_) <;> try (exfalso;omega)))|(refine gc ?_;first|refine ct ?_|refine cf ?_|(refine ci (fun hB=>?_) (fun hB=>?_) <;> try (exfalso;omega)))|refine sq ?_|refine rg ?_|refine xc ?_|refine nl ?_|refine sk ?_|refine bk ?_|refine rt ?_|refine xb ?_|refine rq ?_|refine nq ?_|(refine wq ?_;first|(refine qao ?_;first|refine qa ?_)|refine qa ?_|refine qld ?_)
  all_goals first
   | (rw [e1a (by omega) (by omega)];refine TX.im (one_outO (o:=o) (o1:=o1) fitA) ?_;exact r2 ⟨o,[o1],rfl,ho,rfl,rfl⟩)
   | (rw [e1b (by omega) (by omega)];refine TX.im (one_outO (o:=o) (o1:=o1) fitA) ?_;exact r2 ⟨o,[o1],rfl,ho,rfl,rfl⟩)
   | (rw [e2 (by omega) (by omega)];refine TX.im (one_outO (o:=o) (o1:=o1) fitA) ?_;exact r2 ⟨o,[o1],rfl,ho,rfl,rfl⟩)
   | (rw [e3 (by omega) (by omega) (by omega),hps];refine TX.im (one_outO (o:=o) (o1:=o1) fitA) ?_;exact r2 ⟨o,[o1],rfl,ho,rfl,rfl⟩)
   | (rw [e4 (by omega) (by omega) (by omega)];refine TX.im (owl_nil (e:=TyB) (g:=y8) _) ?_;exact r2 ⟨o,[],rfl,ho,rfl,rfl⟩)
theorem tick_le1 (s:SP):s.tick.2.length ≤ 1:=by
 unfold SP.tick
 split
 ·split
  ·simp
  ·split
   ·simp
   ·split
    ·simp
    ·split <;> simp
 ·simp
theorem Im.dropH {c:Ch} {A:List Ch}:Im (c :: A) A:=Im.trans (Im.perm (List.perm_append_comm (l₁:=[c]) (l₂:=A))) (Im.drop A [c])
theorem owl_relg1 {os:List Value} {outs:List (List Int)} (h:os.length = outs.length) (h1:outs.length ≤ 1) (F:List Ch):Im (owl TyB y8 os outs :: F) (relg y8 os outs :: F):=by
 match os,outs,h,h1 with
 | [],[],_,_=>exact Im.trans Im.dropH (relg_nil (g:=y8) _)
 | [o1],[l],_,_=>
  refine Im.trans (owl_uncons _) ?_
  refine Im.trans (Im.cons _ Im.dropH) ?_
  refine Im.trans (relg_nil (g:=y8) _) ?_
  exact snoc_own (g:=y8) (e:=TyB) (hs:=[]) (ls:=[]) (v:=o1) (l:=l) rfl fitA
 | _ :: _ :: _,_ :: _ :: _,_,h1=>simp at h1
theorem Tick_tr (p:Nat) (h:SH) (s:SP) (hk:s.ok h):Tr Tryz.prog 30 [ptr p] [] (sndP p h s)
  fun v D=>∃ o os,v = tup2 o (I 0)∧o.oneCell' = true∧os.length = s.tick.2.length∧D = sndQ p h s.tick.1 o os s.tick.2:=by
 refine (TickO_tr p h s hk).post ?_
 rintro v _ ⟨o,os,rfl,ho,hos,rfl⟩
 refine ⟨sndQ p h s.tick.1 o os s.tick.2,⟨o,os,rfl,ho,hos,rfl⟩,?_,by (repeat (first | exact nb0 | refine nb1 ?_));first | done | fail⟩
 exact Im.cons _ (Im.cons _ (Im.cons _ (Im.cons _ (Im.cons _ (Im.cons _ (Im.cons _ (owl_relg1 hos (tick_le1 s) _)))))))
end Go.Art.Sn
set_option maxRecDepth 2000
namespace Go.Art.Sn
open Go Go.Proofs Go.RowKit Go.Art
def sndB (q:PkS):Bool:=decide (pkOk q.kd q.sn q.bn q.pn q.rn q.l.length) && (if q.kd = 4 then decide (q.rn < 8) else decide (q.kd = 1) || decide (q.kd = 5))
theorem pgetR_ok {l:List Int} (h:(pgetR l).2 = 0):pkOk (pgetR l).1.kd (pgetR l).1.sn (pgetR l).1.bn (pgetR l).1.pn (pgetR l).1.rn (pgetR l).1.l.length:=by
 unfold pgetR at *
 split at h
 ·rename_i h0
  rw [if_pos h0]
  unfold bodyR at *
  split at h
  ·rename_i h1
   rw [if_pos h1]
   split at h
   ·rename_i h2
    rw [if_pos h2]
    exact h2.2
   ·cases h
  ·cases h
 ·exact absurd h (by assumption)
section
variable {P:Program} {E:Env P} {n:Sh} {X:Cx} {s:List K} {fr:Fr} {A A':List Ch} {ops:Array Oper} {rest:List Oper} {d:Nat} {ty t e:TypeId} {pos:String} {after:Array Edge} {v:Value} {x:Operand} {L:List (Value × Value)}
theorem qlnp (k:TQ E n X s ops rest ((d,I L.length) :: fr) A) (hx:ev fr x = some v:=by rfl) (hm:prs e v L ∈ A:=by exact memA) (ht:lk E.und t = some (.slice e):=by rfl) (hd:Nat.blt d n.n = true:=by rfl) :
  TQ E n X s ops (⟨some d,.call ⟨.builtin .len,#[x],#[t]⟩,ty,pos,after,none⟩ :: rest) fr A:=TQ.val (v:=I L.length) (fun w h=>⟨fun a ha _ _ _ _=>by
 simp only [execOp,resolve]
 rcases prs_at hm h with ⟨rfl,rfl⟩ | ⟨b,cap,cur,rfl,_⟩ <;> simp [ha.ev hx,invoke,builtin,Builtin.len_,run_underlying (P:=P) (E.un ht) w,goInt]⟩) k hd
end
theorem prsL_len:∀ {es:List EnH} {l:List Int},es.length = l.length→(prsL es l).length = l.length
 | [],[],_=>rfl
 | [],_ :: _,h=>by simp at h
 | _ :: _,[],h=>by simp at h
 | _ :: r,_ :: q,h=>by simp [prsL,prsL_len (es:=r) (l:=q) (by simpa using h)]
def SP.take (s:SP) (l:List Int):(SP × List (List Int)) × Int:=
 if (pgetR l).2 = 0 then
  if sndB (pgetR l).1 = true then ((s,[]),2)
  else if (pgetR l).1.sn = s.ses then
   if s.st = 3∨s.st = 6 then ((s,[]),0)
   else if s.alive then
    if (pgetR l).1.kd = 2 then
     if (s.ack.length:Int) < (pgetR l).1.bn then ((s,[]),3)
     else if (pgetR l).1.bn < s.ack.length then (({ s with st:=2,sil:=0,ack:=s.ack.set (pgetR l).1.bn.toNat true },[]),0)
     else (({ s with st:=2,sil:=0 },[]),0)
    else if (pgetR l).1.kd = 3 then (({ s with st:=3,sil:=0 },[]),0)
    else (({ s with st:=6,sil:=0 },[]),0)
   else if (pgetR l).1.kd = 4 then ((s,[]),0)
   else ((s,[(putR 4 s.ses 0 0 (if s.st = 4 then 1 else 2) []).1]),0)
  else ((s,[]),16)
 else ((s,[]),(pgetR l).2)
attribute [local irreducible] Fit pt own ro vw mpc lpt vels rels mow lrc dfr
attribute [local irreducible] lmp lme mit velg relg
theorem Sends_tr (kd sn bn pn rn:Int) (dv:Value) (l:List Int) (hd:dv.oneCell' = true):Tr Tryz.prog 72 [.agg #[I kd,I sn,I bn,I pn,I rn,dv]] [vw dv (By l)] [] fun v D=>v = .bool (sndB ⟨kd,sn,bn,pn,rn,l⟩)∧D = []:=by
 have hC:=PCheck_tr kd sn bn pn rn dv l hd
 unfold sndB pkE at *
 dsimp only
 by_cases hok:pkOk kd sn bn pn rn l.length
 rotate_left
 ·rw [if_neg hok] at hC
  rw [decide_eq_false hok]
  refine Tr.enter env _ Tryz.func72 (by kernel_rfl) rfl Tryz.ntmps72 rfl (by repeat (first | exact has00 | refine has01 ?_)) fun w0=>?_
  repeat' first|(refine gca ?_;first|(refine ca hC ?_;rintro _ _ ⟨rfl,rfl⟩))|refine bx fun b=>?_|refine lda ?_|(refine wo ?_;first|(refine ao ?_;first|refine oa ?_)|refine oa ?_)|(refine gc ?_;first|refine ct ?_)|refine sq ?_|refine rg ?_|refine xc ?_|refine nl ?_|refine bk ?_|refine rt ?_
  exact r1 ⟨rfl,rfl⟩
 rw [if_pos hok] at hC
 rw [decide_eq_true hok]
 by_cases h4:kd = 4
 ·rw [if_pos h4]
  refine Tr.enter env _ Tryz.func72 (by kernel_rfl) rfl Tryz.ntmps72 rfl (by repeat (first | exact has00 | refine has01 ?_)) fun w0=>?_
  repeat' first|(refine gca ?_;first|(refine ca hC ?_;rintro _ _ ⟨rfl,rfl⟩))|refine bx fun b=>?_|refine lda ?_|(refine wo ?_;first|(refine ao ?_;first|refine oa ?_)|refine oa ?_|refine ld ?_)|(refine gc ?_;first|refine cf ?_|(refine ci (fun hB=>?_) (fun hB=>?_) <;> try (exfalso;omega)))|refine sq ?_|refine rg ?_|refine xc ?_|refine nl ?_|refine bk ?_|refine rt ?_
  all_goals first | (exfalso;omega) | exact r1 ⟨rfl,rfl⟩
 ·rw [if_neg h4]
  refine Tr.enter env _ Tryz.func72 (by kernel_rfl) rfl Tryz.ntmps72 rfl (by repeat (first | exact has00 | refine has01 ?_)) fun w0=>?_
  by_cases h1:kd = 1
  ·rw [decide_eq_true h1]
   repeat' first|(refine gca ?_;first|(refine ca hC ?_;rintro _ _ ⟨rfl,rfl⟩))|refine bx fun b=>?_|refine lda ?_|(refine wo ?_;first|(refine ao ?_;first|refine oa ?_)|refine oa ?_|refine ld ?_|refine gn ?_|(refine gsi (fun hB=>?_) (fun hB=>?_) <;> try (exfalso;omega)))|(refine gc ?_;first|refine cf ?_|(refine ci (fun hB=>?_) (fun hB=>?_) <;> try (exfalso;omega)))|refine sq ?_|refine rg ?_|refine xc ?_|refine nl ?_|refine sk ?_|refine bk ?_|refine rt ?_|refine xb ?_
   all_goals first | (exfalso;omega) | exact r1 ⟨rfl,rfl⟩
  ·rw [decide_eq_false h1]
   repeat' first|(refine gca ?_;first|(refine ca hC ?_;rintro _ _ ⟨rfl,rfl⟩))|refine bx fun b=>?_|refine lda ?_|(refine wo ?_;first|(refine ao ?_;first|refine oa ?_)|refine oa ?_|refine ld ?_|refine gy ?_|(refine gsi (fun hB=>?_) (fun hB=>?_) <;> try (exfalso;omega)))|(refine gc ?_;first|refine cf ?_|(refine ci (fun hB=>?_) (fun hB=>?_) <;> try (exfalso;omega)))|refine sq ?_|refine rg ?_|refine xc ?_|refine nl ?_|refine sk ?_|refine bk ?_|refine rt ?_|refine xb ?_
   all_goals first | (exfalso;omega) | exact r1 ⟨rfl,rfl⟩
set_option maxHeartbeats 4000000 in
theorem Take_tr (p:Nat) (h:SH) (s:SP) (hk:s.ok h) (b:Value) (l:List Int) (hl:l.length ≤ 1099511627776) (hin:inB l) (hb:b.oneCell' = true):Tr Tryz.prog 34 [ptr p,b] [vw b (By l)] (sndP p h s)
  fun v D=>∃ o os,v = tup2 o (I (s.take l).2)∧o.oneCell' = true∧os.length = (s.take l).1.2.length∧D = sndQ p h (s.take l).1.1 o os (s.take l).1.2:=by
 have hG:=PGet_tr b l hl hin
 have hpk:=fun h=>pgetR_ok (l:=l) h
 have hpl:=prsL_len (es:=h.es) (l:=s.sent) (by rw [hk.n2,hk.n1])
 have hn1:=hk.n1
 unfold SP.take
 generalize pgetR l = G at *
 obtain ⟨⟨kd,sn,bn,pn,rn,bl⟩,e⟩:=G
 dsimp only at *
 by_cases he:e = 0
 rotate_left
 ·rw [if_neg he]
  refine Tr.enter env _ Tryz.func34 (by kernel_rfl) rfl Tryz.ntmps34 rfl (by repeat (first | exact has00 | refine has01 ?_)) fun w0=>?_
  repeat' first|(refine gca ?_;first|(refine ca (none_tr p s.ses s.bud s.tmo s.last _ s.st h.opn h.pts h.ack h.c) ?_;rintro _ _ ⟨rfl,rfl⟩)|(refine ca hG ?_;rintro _ _ ⟨dv,rfl,hdv,rfl⟩)|(refine ca (Sends_tr kd sn bn pn rn dv bl hdv) ?_;rintro _ _ ⟨rfl,rfl⟩;rw [hX])|(refine ca (alive_tr p _ _ _ _ _ _ _ _ _ s.st) ?_;rintro _ _ ⟨rfl,rfl⟩;rw [hal])|(refine ca (abort_tr p s.ses s.bud s.tmo s.last s.sil s.st h.opn h.pts h.ack h.c) ?_;rintro _ _ ⟨o1,ho1,rfl⟩)|(refine ca (sends_tr p s.ses s.bud s.tmo s.last s.sil s.st h.opn h.pts h.ack h.c [o1] (one_cons ho1 one_nil) (by simp)) ?_;rintro o _ ⟨ho,rfl⟩)|(refine ca (sends_tr p s.ses s.bud s.tmo s.last s.sil s.st h.opn h.pts h.ack h.c [] one_nil (by simp)) ?_;rintro o _ ⟨ho,rfl⟩))|refine al fun z=>?_|refine srz ?_|refine lda ?_|(refine qlnp (L:=prsL h.es s.sent) ?_;rw [hpl])|(refine wo ?_;first|(refine ao ?_;first|refine oa ?_)|refine oa ?_)|(refine gc ?_;first|refine cf ?_|(refine cn (fun hB=>?_) (fun hB=>?_) <;> try (exfalso;omega)))|refine sq ?_|refine rg ?_|refine xc ?_|refine nl ?_|refine sk ?_|refine bk ?_|refine rt ?_
  refine TX.im (relg_nil (g:=y8) _) ?_
  refine TX.im (own_nil TyV _) ?_
  exact r2 ⟨nS,[],rfl,rfl,rfl,rfl⟩
 subst he
 rw [if_pos rfl]
 cases hX:sndB ⟨kd,sn,bn,pn,rn,bl⟩
 rotate_left
 ·rw [if_pos rfl]
  refine Tr.enter env _ Tryz.func34 (by kernel_rfl) rfl Tryz.ntmps34 rfl (by repeat (first | exact has00 | refine has01 ?_)) fun w0=>?_
  repeat' first|(refine gca ?_;first|(refine ca (none_tr p s.ses s.bud s.tmo s.last _ s.st h.opn h.pts h.ack h.c) ?_;rintro _ _ ⟨rfl,rfl⟩)|(refine ca hG ?_;rintro _ _ ⟨dv,rfl,hdv,rfl⟩)|(refine ca (Sends_tr kd sn bn pn rn dv bl hdv) ?_;rintro _ _ ⟨rfl,rfl⟩;rw [hX])|(refine ca (alive_tr p _ _ _ _ _ _ _ _ _ s.st) ?_;rintro _ _ ⟨rfl,rfl⟩;rw [hal])|(refine ca (abort_tr p s.ses s.bud s.tmo s.last s.sil s.st h.opn h.pts h.ack h.c) ?_;rintro _ _ ⟨o1,ho1,rfl⟩)|(refine ca (sends_tr p s.ses s.bud s.tmo s.last s.sil s.st h.opn h.pts h.ack h.c [o1] (one_cons ho1 one_nil) (by simp)) ?_;rintro o _ ⟨ho,rfl⟩)|(refine ca (sends_tr p s.ses s.bud s.tmo s.last s.sil s.st h.opn h.pts h.ack h.c [] one_nil (by simp)) ?_;rintro o _ ⟨ho,rfl⟩))|refine al fun z=>?_|refine srz ?_|refine lda ?_|(refine qlnp (L:=prsL h.es s.sent) ?_;rw [hpl])|(refine wo ?_;first|(refine ao ?_;first|refine oa ?_)|refine oa ?_)|(refine gc ?_;first|refine ct ?_|refine cf ?_)|refine sq ?_|refine rg ?_|refine xc ?_|refine nl ?_|refine sk ?_|refine bk ?_|refine rt ?_
  refine TX.im (relg_nil (g:=y8) _) ?_
  refine TX.im (own_nil TyV _) ?_
  exact r2 ⟨nS,[],rfl,rfl,rfl,rfl⟩
 rw [if_neg (by decide)]
 have hal':s.alive ↔ (s.st = 1∨s.st = 2):=Iff.rfl
 by_cases hsn:sn = s.ses
 rotate_left
 ·rw [if_neg hsn]
  have hal:(decide (s.st = 1) || decide (s.st = 2)) = (decide (s.st = 1) || decide (s.st = 2)):=rfl
  refine Tr.enter env _ Tryz.func34 (by kernel_rfl) rfl Tryz.ntmps34 rfl (by repeat (first | exact has00 | refine has01 ?_)) fun w0=>?_
  repeat' first|(refine gca ?_;first|(refine ca (none_tr p s.ses s.bud s.tmo s.last _ s.st h.opn h.pts h.ack h.c) ?_;rintro _ _ ⟨rfl,rfl⟩)|(refine ca hG ?_;rintro _ _ ⟨dv,rfl,hdv,rfl⟩)|(refine ca (Sends_tr kd sn bn pn rn dv bl hdv) ?_;rintro _ _ ⟨rfl,rfl⟩;rw [hX])|(refine ca (alive_tr p _ _ _ _ _ _ _ _ _ s.st) ?_;rintro _ _ ⟨rfl,rfl⟩;rw [hal])|(refine ca (abort_tr p s.ses s.bud s.tmo s.last s.sil s.st h.opn h.pts h.ack h.c) ?_;rintro _ _ ⟨o1,ho1,rfl⟩)|(refine ca (sends_tr p s.ses s.bud s.tmo s.last s.sil s.st h.opn h.pts h.ack h.c [o1] (one_cons ho1 one_nil) (by simp)) ?_;rintro o _ ⟨ho,rfl⟩)|(refine ca (sends_tr p s.ses s.bud s.tmo s.last s.sil s.st h.opn h.pts h.ack h.c [] one_nil (by simp)) ?_;rintro o _ ⟨ho,rfl⟩))|refine al fun z=>?_|refine srz ?_|refine lda ?_|(refine qlnp (L:=prsL h.es s.sent) ?_;rw [hpl])|(refine wo ?_;first|(refine ao ?_;first|refine oa ?_)|refine oa ?_)|(refine gc ?_;first|refine cf ?_|(refine cn (fun hB=>?_) (fun hB=>?_) <;> try (exfalso;omega)))|refine sq ?_|refine rg ?_|refine xc ?_|refine nl ?_|refine sk ?_|refine bk ?_|refine rt ?_|refine rq ?_|refine nq ?_|(refine wq ?_;first|(refine qao ?_;first|refine qa ?_)|refine qa ?_|refine qld ?_)
  all_goals first | (exfalso;omega) | (refine TX.im (relg_nil (g:=y8) _) ?_;refine TX.im (own_nil TyV _) ?_;exact r2 ⟨nS,[],rfl,rfl,rfl,rfl⟩)
 rw [if_pos hsn]
 by_cases h36:s.st = 3∨s.st = 6
 ·rw [if_pos h36]
  have hal:(decide (s.st = 1) || decide (s.st = 2)) = false:=by rw [decide_eq_false (by omega),decide_eq_false (by omega)];rfl
  refine Tr.enter env _ Tryz.func34 (by kernel_rfl) rfl Tryz.ntmps34 rfl (by repeat (first | exact has00 | refine has01 ?_)) fun w0=>?_
  repeat' first|(refine gca ?_;first|(refine ca (none_tr p s.ses s.bud s.tmo s.last _ s.st h.opn h.pts h.ack h.c) ?_;rintro _ _ ⟨rfl,rfl⟩)|(refine ca hG ?_;rintro _ _ ⟨dv,rfl,hdv,rfl⟩)|(refine ca (Sends_tr kd sn bn pn rn dv bl hdv) ?_;rintro _ _ ⟨rfl,rfl⟩;rw [hX])|(refine ca (alive_tr p _ _ _ _ _ _ _ _ _ s.st) ?_;rintro _ _ ⟨rfl,rfl⟩;rw [hal])|(refine ca (abort_tr p s.ses s.bud s.tmo s.last s.sil s.st h.opn h.pts h.ack h.c) ?_;rintro _ _ ⟨o1,ho1,rfl⟩)|(refine ca (sends_tr p s.ses s.bud s.tmo s.last s.sil s.st h.opn h.pts h.ack h.c [o1] (one_cons ho1 one_nil) (by simp)) ?_;rintro o _ ⟨ho,rfl⟩)|(refine ca (sends_tr p s.ses s.bud s.tmo s.last s.sil s.st h.opn h.pts h.ack h.c [] one_nil (by simp)) ?_;rintro o _ ⟨ho,rfl⟩))|refine al fun z=>?_|refine srz ?_|refine lda ?_|(refine qlnp (L:=prsL h.es s.sent) ?_;rw [hpl])|(refine wo ?_;first|(refine ao ?_;first|refine oa ?_)|refine oa ?_|refine ld ?_|refine gy ?_|refine gn ?_|(refine gsi (fun hB=>?_) (fun hB=>?_) <;> try (exfalso;omega)))|(refine gc ?_;first|refine ct ?_|refine cf ?_|(refine ci (fun hB=>?_) (fun hB=>?_) <;> try (exfalso;omega))|(refine cn (fun hB=>?_) (fun hB=>?_) <;> try (exfalso;omega)))|refine sq ?_|refine rg ?_|refine xc ?_|refine nl ?_|refine sk ?_|refine bk ?_|refine rt ?_|refine rq ?_|refine nq ?_|(refine wq ?_;first|(refine qao ?_;first|refine qa ?_)|refine qa ?_|refine qld ?_)
  all_goals first | (exfalso;omega) | (refine TX.im (relg_nil (g:=y8) _) ?_;refine TX.im (own_nil TyV _) ?_;exact r2 ⟨nS,[],rfl,rfl,rfl,rfl⟩)
 rw [if_neg h36]
 by_cases ha:s.alive
 rotate_left
 ·rw [if_neg ha]
  have hal:(decide (s.st = 1) || decide (s.st = 2)) = false:=by
   rw [hal'] at ha
   rw [decide_eq_false (by omega),decide_eq_false (by omega)];rfl
  by_cases h4:kd = 4
  ·rw [if_pos h4]
   refine Tr.enter env _ Tryz.func34 (by kernel_rfl) rfl Tryz.ntmps34 rfl (by repeat (first | exact has00 | refine has01 ?_)) fun w0=>?_
   repeat' first|(refine gca ?_;first|(refine ca (none_tr p s.ses s.bud s.tmo s.last _ s.st h.opn h.pts h.ack h.c) ?_;rintro _ _ ⟨rfl,rfl⟩)|(refine ca hG ?_;rintro _ _ ⟨dv,rfl,hdv,rfl⟩)|(refine ca (Sends_tr kd sn bn pn rn dv bl hdv) ?_;rintro _ _ ⟨rfl,rfl⟩;rw [hX])|(refine ca (alive_tr p _ _ _ _ _ _ _ _ _ s.st) ?_;rintro _ _ ⟨rfl,rfl⟩;rw [hal])|(refine ca (abort_tr p s.ses s.bud s.tmo s.last s.sil s.st h.opn h.pts h.ack h.c) ?_;rintro _ _ ⟨o1,ho1,rfl⟩)|(refine ca (sends_tr p s.ses s.bud s.tmo s.last s.sil s.st h.opn h.pts h.ack h.c [o1] (one_cons ho1 one_nil) (by simp)) ?_;rintro o _ ⟨ho,rfl⟩)|(refine ca (sends_tr p s.ses s.bud s.tmo s.last s.sil s.st h.opn h.pts h.ack h.c [] one_nil (by simp)) ?_;rintro o _ ⟨ho,rfl⟩))|refine al fun z=>?_|refine srz ?_|refine lda ?_|(refine qlnp (L:=prsL h.es s.sent) ?_;rw [hpl])|(refine wo ?_;first|(refine ao ?_;first|refine oa ?_)|refine oa ?_|refine ld ?_|refine gy ?_|(refine gsi (fun hB=>?_) (fun hB=>?_) <;> try (exfalso;omega)))|(refine gc ?_;first|refine ct ?_|refine cf ?_|(refine ci (fun hB=>?_) (fun hB=>?_) <;> try (exfalso;omega))|(refine cn (fun hB=>?_) (fun hB=>?_) <;> try (exfalso;omega)))|refine sq ?_|refine rg ?_|refine xc ?_|refine nl ?_|refine sk ?_|refine bk ?_|refine rt ?_|refine rq ?_|refine nq ?_|(refine wq ?_;first|(refine qao ?_;first|refine qa ?_)|refine qa ?_|refine qld ?_)
   all_goals first | (exfalso;omega) | (refine TX.im (relg_nil (g:=y8) _) ?_;exact r2 ⟨o,[],rfl,ho,rfl,rfl⟩)
  ·rw [if_neg h4]
   refine Tr.enter env _ Tryz.func34 (by kernel_rfl) rfl Tryz.ntmps34 rfl (by repeat (first | exact has00 | refine has01 ?_)) fun w0=>?_
   repeat' first|(refine gca ?_;first|(refine ca (none_tr p s.ses s.bud s.tmo s.last _ s.st h.opn h.pts h.ack h.c) ?_;rintro _ _ ⟨rfl,rfl⟩)|(refine ca hG ?_;rintro _ _ ⟨dv,rfl,hdv,rfl⟩)|(refine ca (Sends_tr kd sn bn pn rn dv bl hdv) ?_;rintro _ _ ⟨rfl,rfl⟩;rw [hX])|(refine ca (alive_tr p _ _ _ _ _ _ _ _ _ s.st) ?_;rintro _ _ ⟨rfl,rfl⟩;rw [hal])|(refine ca (abort_tr p s.ses s.bud s.tmo s.last s.sil s.st h.opn h.pts h.ack h.c) ?_;rintro _ _ ⟨o1,ho1,rfl⟩)|(refine ca (sends_tr p s.ses s.bud s.tmo s.last s.sil s.st h.opn h.pts h.ack h.c [o1] (one_cons ho1 one_nil) (by simp)) ?_;rintro o _ ⟨ho,rfl⟩)|(refine ca (sends_tr p s.ses s.bud s.tmo s.last s.sil s.st h.opn h.pts h.ack h.c [] one_nil (by simp)) ?_;rintro o _ ⟨ho,rfl⟩))|refine al fun z=>?_|refine srz ?_|refine lda ?_|(refine qlnp (L:=prsL h.es s.sent) ?_;rw [hpl])|(refine wo ?_;first|(refine ao ?_;first|refine oa ?_)|refine oa ?_|refine ld ?_|refine gy ?_|(refine gsi (fun hB=>?_) (fun hB=>?_) <;> try (exfalso;omega)))|(refine gc ?_;first|refine ct ?_|refine cf ?_|(refine ci (fun hB=>?_) (fun hB=>?_) <;> try (exfalso;omega))|(refine cn (fun hB=>?_) (fun hB=>?_) <;> try (exfalso;omega)))|refine sq ?_|refine rg ?_|refine xc ?_|refine nl ?_|refine sk ?_|refine bk ?_|refine rt ?_|refine rq ?_|refine nq ?_|(refine wq ?_;first|(refine qao ?_;first|refine qa ?_)|refine qa ?_|refine qld ?_)
   all_goals first | (exfalso;omega) | (refine TX.im (one_out (o:=o) (o1:=o1) fitA) ?_;exact r2 ⟨o,[o1],rfl,ho,rfl,rfl⟩)
 rw [if_pos ha]
 have hal:(decide (s.st = 1) || decide (s.st = 2)) = true:=by
  rw [hal'] at ha
  rcases ha with ha | ha <;> simp [ha]
 by_cases hk2:kd = 2
 rotate_left
 ·rw [if_neg hk2]
  by_cases hk3:kd = 3
  ·rw [if_pos hk3]
   refine Tr.enter env _ Tryz.func34 (by kernel_rfl) rfl Tryz.ntmps34 rfl (by repeat (first | exact has00 | refine has01 ?_)) fun w0=>?_
   repeat' first|(refine gca ?_;first|(refine ca (none_tr p s.ses s.bud s.tmo s.last _ s.st h.opn h.pts h.ack h.c) ?_;rintro _ _ ⟨rfl,rfl⟩)|(refine ca hG ?_;rintro _ _ ⟨dv,rfl,hdv,rfl⟩)|(refine ca (Sends_tr kd sn bn pn rn dv bl hdv) ?_;rintro _ _ ⟨rfl,rfl⟩;rw [hX])|(refine ca (alive_tr p _ _ _ _ _ _ _ _ _ s.st) ?_;rintro _ _ ⟨rfl,rfl⟩;rw [hal])|(refine ca (abort_tr p s.ses s.bud s.tmo s.last s.sil s.st h.opn h.pts h.ack h.c) ?_;rintro _ _ ⟨o1,ho1,rfl⟩)|(refine ca (sends_tr p s.ses s.bud s.tmo s.last s.sil s.st h.opn h.pts h.ack h.c [o1] (one_cons ho1 one_nil) (by simp)) ?_;rintro o _ ⟨ho,rfl⟩)|(refine ca (sends_tr p s.ses s.bud s.tmo s.last s.sil s.st h.opn h.pts h.ack h.c [] one_nil (by simp)) ?_;rintro o _ ⟨ho,rfl⟩))|refine al fun z=>?_|refine srz ?_|refine lda ?_|(refine qlnp (L:=prsL h.es s.sent) ?_;rw [hpl])|(refine wo ?_;first|(refine ao ?_;first|refine oa ?_)|refine oa ?_|refine ld ?_|refine sr ?_|refine gy ?_|(refine gsi (fun hB=>?_) (fun hB=>?_) <;> try (exfalso;omega)))|(refine gc ?_;first|refine cf ?_|(refine ci (fun hB=>?_) (fun hB=>?_) <;> try (exfalso;omega))|(refine cn (fun hB=>?_) (fun hB=>?_) <;> try (exfalso;omega)))|refine sq ?_|refine rg ?_|refine xc ?_|refine nl ?_|refine sk ?_|refine bk ?_|refine rt ?_|refine xb ?_|refine rq ?_|refine nq ?_|(refine wq ?_;first|(refine qao ?_;first|refine qa ?_)|refine qa ?_|refine qld ?_)
   all_goals first | (exfalso;omega) | (refine TX.im (relg_nil (g:=y8) _) ?_;refine TX.im (own_nil TyV _) ?_;exact r2 ⟨nS,[],rfl,rfl,rfl,rfl⟩)
  ·rw [if_neg hk3]
   refine Tr.enter env _ Tryz.func34 (by kernel_rfl) rfl Tryz.ntmps34 rfl (by repeat (first | exact has00 | refine has01 ?_)) fun w0=>?_
   repeat' first|(refine gca ?_;first|(refine ca (none_tr p s.ses s.bud s.tmo s.last _ s.st h.opn h.pts h.ack h.c) ?_;rintro _ _ ⟨rfl,rfl⟩)|(refine ca hG ?_;rintro _ _ ⟨dv,rfl,hdv,rfl⟩)|(refine ca (Sends_tr kd sn bn pn rn dv bl hdv) ?_;rintro _ _ ⟨rfl,rfl⟩;rw [hX])|(refine ca (alive_tr p _ _ _ _ _ _ _ _ _ s.st) ?_;rintro _ _ ⟨rfl,rfl⟩;rw [hal])|(refine ca (abort_tr p s.ses s.bud s.tmo s.last s.sil s.st h.opn h.pts h.ack h.c) ?_;rintro _ _ ⟨o1,ho1,rfl⟩)|(refine ca (sends_tr p s.ses s.bud s.tmo s.last s.sil s.st h.opn h.pts h.ack h.c [o1] (one_cons ho1 one_nil) (by simp)) ?_;rintro o _ ⟨ho,rfl⟩)|(refine ca (sends_tr p s.ses s.bud s.tmo s.last s.sil s.st h.opn h.pts h.ack h.c [] one_nil (by simp)) ?_;rintro o _ ⟨ho,rfl⟩))|refine al fun z=>?_|refine srz ?_|refine lda ?_|(refine qlnp (L:=prsL h.es s.sent) ?_;rw [hpl])|(refine wo ?_;first|(refine ao ?_;first|refine oa ?_)|refine oa ?_|refine ld ?_|refine sr ?_|refine gy ?_|(refine gsi (fun hB=>?_) (fun hB=>?_) <;> try (exfalso;omega)))|(refine gc ?_;first|refine cf ?_|(refine ci (fun hB=>?_) (fun hB=>?_) <;> try (exfalso;omega))|(refine cn (fun hB=>?_) (fun hB=>?_) <;> try (exfalso;omega)))|refine sq ?_|refine rg ?_|refine xc ?_|refine nl ?_|refine sk ?_|refine bk ?_|refine rt ?_|refine xb ?_|refine rq ?_|refine nq ?_|(refine wq ?_;first|(refine qao ?_;first|refine qa ?_)|refine qa ?_|refine qld ?_)
   all_goals first | (exfalso;omega) | (refine TX.im (relg_nil (g:=y8) _) ?_;refine TX.im (own_nil TyV _) ?_;exact r2 ⟨nS,[],rfl,rfl,rfl,rfl⟩)
 rw [if_pos hk2]
 have hbn:0 ≤ bn:=(hpk rfl).2.2.1.1
 by_cases hb1:(s.ack.length:Int) < bn
 ·rw [if_pos hb1]
  refine Tr.enter env _ Tryz.func34 (by kernel_rfl) rfl Tryz.ntmps34 rfl (by repeat (first | exact has00 | refine has01 ?_)) fun w0=>?_
  repeat' first|(refine gca ?_;first|(refine ca (none_tr p s.ses s.bud s.tmo s.last _ s.st h.opn h.pts h.ack h.c) ?_;rintro _ _ ⟨rfl,rfl⟩)|(refine ca hG ?_;rintro _ _ ⟨dv,rfl,hdv,rfl⟩)|(refine ca (Sends_tr kd sn bn pn rn dv bl hdv) ?_;rintro _ _ ⟨rfl,rfl⟩;rw [hX])|(refine ca (alive_tr p _ _ _ _ _ _ _ _ _ s.st) ?_;rintro _ _ ⟨rfl,rfl⟩;rw [hal])|(refine ca (abort_tr p s.ses s.bud s.tmo s.last s.sil s.st h.opn h.pts h.ack h.c) ?_;rintro _ _ ⟨o1,ho1,rfl⟩)|(refine ca (sends_tr p s.ses s.bud s.tmo s.last s.sil s.st h.opn h.pts h.ack h.c [o1] (one_cons ho1 one_nil) (by simp)) ?_;rintro o _ ⟨ho,rfl⟩)|(refine ca (sends_tr p s.ses s.bud s.tmo s.last s.sil s.st h.opn h.pts h.ack h.c [] one_nil (by simp)) ?_;rintro o _ ⟨ho,rfl⟩))|refine al fun z=>?_|refine srz ?_|refine lda ?_|(refine qlnp (L:=prsL h.es s.sent) ?_;rw [hpl])|(refine wo ?_;first|(refine ao ?_;first|refine oa ?_)|refine oa ?_|refine ld ?_|refine gy ?_|(refine gsi (fun hB=>?_) (fun hB=>?_) <;> try (exfalso;omega)))|(refine gc ?_;first|refine cf ?_|(refine ci (fun hB=>?_) (fun hB=>?_) <;> try (exfalso;omega))|(refine cn (fun hB=>?_) (fun hB=>?_) <;> try (exfalso;omega)))|refine sq ?_|refine rg ?_|refine xc ?_|refine nl ?_|refine sk ?_|refine bk ?_|refine rt ?_|refine xb ?_|refine rq ?_|refine nq ?_|(refine wq ?_;first|(refine qao ?_;first|refine qa ?_)|refine qa ?_|refine qld ?_)
  all_goals first | (exfalso;omega) | (refine TX.im (relg_nil (g:=y8) _) ?_;refine TX.im (own_nil TyV _) ?_;exact r2 ⟨nS,[],rfl,rfl,rfl,rfl⟩)
 rw [if_neg hb1]
 by_cases hb2:bn < (s.ack.length:Int)
 rotate_left
 ·rw [if_neg hb2]
  refine Tr.enter env _ Tryz.func34 (by kernel_rfl) rfl Tryz.ntmps34 rfl (by repeat (first | exact has00 | refine has01 ?_)) fun w0=>?_
  repeat' first|(refine gca ?_;first|(refine ca (none_tr p s.ses s.bud s.tmo s.last _ s.st h.opn h.pts h.ack h.c) ?_;rintro _ _ ⟨rfl,rfl⟩)|(refine ca hG ?_;rintro _ _ ⟨dv,rfl,hdv,rfl⟩)|(refine ca (Sends_tr kd sn bn pn rn dv bl hdv) ?_;rintro _ _ ⟨rfl,rfl⟩;rw [hX])|(refine ca (alive_tr p _ _ _ _ _ _ _ _ _ s.st) ?_;rintro _ _ ⟨rfl,rfl⟩;rw [hal])|(refine ca (abort_tr p s.ses s.bud s.tmo s.last s.sil s.st h.opn h.pts h.ack h.c) ?_;rintro _ _ ⟨o1,ho1,rfl⟩)|(refine ca (sends_tr p s.ses s.bud s.tmo s.last s.sil s.st h.opn h.pts h.ack h.c [o1] (one_cons ho1 one_nil) (by simp)) ?_;rintro o _ ⟨ho,rfl⟩)|(refine ca (sends_tr p s.ses s.bud s.tmo s.last s.sil s.st h.opn h.pts h.ack h.c [] one_nil (by simp)) ?_;rintro o _ ⟨ho,rfl⟩))|refine al fun z=>?_|refine srz ?_|refine lda ?_|(refine qlnp (L:=prsL h.es s.sent) ?_;rw [hpl])|(refine wo ?_;first|(refine ao ?_;first|refine oa ?_)|refine oa ?_|refine ld ?_|refine sr ?_|refine gy ?_|(refine gsi (fun hB=>?_) (fun hB=>?_) <;> try (exfalso;omega)))|(refine gc ?_;first|refine cf ?_|(refine ci (fun hB=>?_) (fun hB=>?_) <;> try (exfalso;omega))|(refine cn (fun hB=>?_) (fun hB=>?_) <;> try (exfalso;omega)))|refine sq ?_|refine rg ?_|refine xc ?_|refine nl ?_|refine sk ?_|refine bk ?_|refine rt ?_|refine xb ?_|refine rq ?_|refine nq ?_|(refine wq ?_;first|(refine qao ?_;first|refine qa ?_)|refine qa ?_|refine qld ?_)
  all_goals first | (exfalso;omega) | (refine TX.im (relg_nil (g:=y8) _) ?_;refine TX.im (own_nil TyV _) ?_;exact r2 ⟨nS,[],rfl,rfl,rfl,rfl⟩)
 rw [if_pos hb2]
 have hbl:=Bo_len s.ack
 have hsB:Bo (s.ack.set bn.toNat true) = (Bo s.ack).set bn.toNat (.bool true):=List.map_set ..
 refine Tr.enter env _ Tryz.func34 (by kernel_rfl) rfl Tryz.ntmps34 rfl (by repeat (first | exact has00 | refine has01 ?_)) fun w0=>?_
 repeat' first|(refine gca ?_;first|(refine ca (none_tr p s.ses s.bud s.tmo s.last _ s.st h.opn h.pts h.ack h.c) ?_;rintro _ _ ⟨rfl,rfl⟩)|(refine ca hG ?_;rintro _ _ ⟨dv,rfl,hdv,rfl⟩)|(refine ca (Sends_tr kd sn bn pn rn dv bl hdv) ?_;rintro _ _ ⟨rfl,rfl⟩;rw [hX])|(refine ca (alive_tr p _ _ _ _ _ _ _ _ _ s.st) ?_;rintro _ _ ⟨rfl,rfl⟩;rw [hal])|(refine ca (abort_tr p s.ses s.bud s.tmo s.last s.sil s.st h.opn h.pts h.ack h.c) ?_;rintro _ _ ⟨o1,ho1,rfl⟩)|(refine ca (sends_tr p s.ses s.bud s.tmo s.last s.sil s.st h.opn h.pts h.ack h.c [o1] (one_cons ho1 one_nil) (by simp)) ?_;rintro o _ ⟨ho,rfl⟩)|(refine ca (sends_tr p s.ses s.bud s.tmo s.last s.sil s.st h.opn h.pts h.ack h.c [] one_nil (by simp)) ?_;rintro o _ ⟨ho,rfl⟩))|refine rs (id:=23) (fun w=>w.heap[p]? = some (.cells [I s.ses,I s.bud,I s.tmo,h.opn,h.pts,h.ack,I s.last,I s.sil,I 2,chv h.c].toArray TSn (0,0))∧w.heap[z]? = some (.cells [I kd,I sn,I bn,I pn,I rn,dv].toArray TPk (0,0))) ?_ (fun w hw=>⟨pt_at memA hw,pt_at memA hw⟩)|refine al fun z=>?_|refine srz ?_|refine lda ?_|(refine qlnp (L:=prsL h.es s.sent) ?_;rw [hpl])|(refine wo ?_;first|(refine ao ?_;first|refine oa ?_)|refine oa ?_|refine ld ?_|refine sr ?_|refine gy ?_|(refine gsi (fun hB=>?_) (fun hB=>?_) <;> try (exfalso;omega)))|(refine gc ?_;first|refine cf ?_|(refine ci (fun hB=>?_) (fun hB=>?_) <;> try (exfalso;omega))|(refine cn (fun hB=>?_) (fun hB=>?_) <;> try (exfalso;omega)))|refine sq ?_|refine rg ?_|refine xc ?_|refine nl ?_|refine sk ?_|refine bk ?_|refine xb ?_|refine rq ?_|refine nq ?_|(refine wq ?_;first|(refine qao ?_;first|refine qa ?_)|refine qa ?_|refine qld ?_)
 all_goals try (exfalso;omega)
 refine tka 0 ?_
 refine tka 1 ?_
 refine tka 2 ?_
 refine tkl 3 (cs:=[I s.ses,I s.bud,I s.tmo,h.opn,h.pts,h.ack,I s.last,I s.sil,I 2,chv h.c]) (fun w h=>h.1) ?_
 refine tka 4 ?_
 refine tkl 5 (cs:=[I kd,I sn,I bn,I pn,I rn,dv]) (fun w h=>h.2) ?_
 refine t1 6 ?_
 refine ix (xs:=Bo s.ack) ?_
 refine nl ?_
 refine te (fun w hw=>⟨pt_at memA hw,pt_at memA hw⟩) ?_
 refine t1 7 ?_
 refine so (xs:=Bo s.ack) (ys:=Bo (s.ack.set bn.toNat true)) ?_ (hs:=hsB) (hj:=by omega)
 refine nl ?_
 refine te (fun w hw=>⟨pt_at memA hw,pt_at memA hw⟩) ?_
 refine t0 ?_
 repeat' first|(refine wo ?_;first|refine oa ?_|refine sr ?_)|refine sq ?_|refine rg ?_|refine xc ?_|refine nl ?_|refine rt ?_|refine xb ?_
 (refine TX.im (relg_nil (g:=y8) _) ?_;refine TX.im (own_nil TyV _) ?_;exact r2 ⟨nS,[],rfl,rfl,rfl,rfl⟩)
end Go.Art.Sn
set_option maxRecDepth 2000
namespace Go.Art.Sn
open Go Go.Proofs Go.RowKit Go.Art
theorem bytes_len (m:MfS):m.bytes.length = 20 + 4 * m.t.length:=by
 unfold MfS.bytes
 rw [List.length_append,wB_len _ _ (Nat.le_refl _)]
 simp [headB,beB_len]
theorem syms_len (m:MfS) (d:List Int) (n:Int):(m.syms d n).length = m.k.toNat:=chL_len _ _ _
theorem enc_ok {m:MfS} (hok:m.ok) (d:List Int) {n:Int} (hn:0 ≤ n∧n < m.blocks):newE m.t n (m.syms d n) = 0:=by
 have hbi:=MfS.blocks_in hok
 obtain ⟨_,g2,g3,_,g5⟩:=hok
 have hl:=syms_len m d n
 have hall:∀ l ∈ m.syms d n,l.length = m.sym.toNat:=by
  intro l hl
  unfold MfS.syms chL at hl
  obtain ⟨i,_,rfl⟩:=List.mem_map.1 hl
  unfold chP
  exact padL_len (by rw [List.length_take];omega)
 have h0:((m.syms d n).getD 0 []).length = m.sym.toNat:=hall _ (getD_memL (by omega))
 have hb:blkE (m.syms d n) = 0:=by
  unfold blkE
  rw [if_neg (by omega),if_neg]
  rw [List.any_eq_true]
  rintro ⟨l,hl,h⟩
  have:=hall l hl
  rw [this,h0] at h
  simp at h
 rw [newE,if_pos hb,smpE,hl,Int.toNat_of_nonneg (by omega),if_pos (mtB_sol g3 g5).1,if_pos (by unfold numOk;omega)]
theorem prsL_app:∀ (es:List EnH) (j:Nat) (e:EnH),es.length = j→prsL (es ++ [e]) (List.replicate (j + 1) 0) = prsL es (List.replicate j 0) ++ [(srcV e.b,I 0)]
 | [],j,e,h=>by subst h;rfl
 | a :: r,j,e,h=>by
  cases j with
  | zero=>simp at h
  | succ j=>simp only [List.cons_append,List.replicate_succ,prsL];rw [← prsL_app r j e (by simpa using h),List.replicate_succ]
theorem frz_snoc {A F C D:List Ch} (hn:∀ c ∈ D,∀ b,¬ c.bd b) (hf:Fit A (frz C :: D) F):Im A (frz (C ++ D) :: F):=by
 unfold Fit at hf
 exact Im.trans hf (Im.trans (Im.cons _ (im_frz D hn F)) (frz_app C D F))
structure NwG2 where
 j:Nat
 pts:Value
 es:List EnH
def newSE (m:MfS) (d:List Int) (ses bud tmo:Int):Int:=
 if m.ok∧(d.length:Int) = m.size then (if (0 ≤ ses∧ses ≤ 4294967295)∧(0 ≤ bud∧bud ≤ 2147483647)∧1 ≤ tmo∧tmo ≤ 2147483647 then 0 else 3) else 2
def SP.new (m:MfS) (d:List Int) (ses bud tmo:Int):SP:=⟨ses,bud,tmo,-1,0,1,m,d,List.replicate m.blocks.toNat 0,List.replicate m.blocks.toNat false,m.bytes⟩
attribute [local irreducible] Fit pt own ro vw mpc lpt vels rels mow lrc dfr
attribute [local irreducible] lmp lme mit velg relg
theorem swithin_tr (n lo hi:Int):Tr Tryz.prog 21 [I n,I lo,I hi] [] [] fun v D=>v = .bool (decide (lo ≤ n∧n ≤ hi))∧D = []:=by
 refine Tr.enter env _ Tryz.func21 (by kernel_rfl) rfl Tryz.ntmps21 rfl (by repeat (first | exact has00 | refine has01 ?_)) fun w0=>?_
 repeat' first|(refine wo ?_;first|(refine ao ?_;first|refine oa ?_)|refine oa ?_|refine gy ?_|refine gn ?_|(refine gsi (fun hB=>?_) (fun hB=>?_) <;> try (exfalso;omega)))|refine sq ?_|refine rg ?_|refine xc ?_|refine nl ?_|refine rt ?_
 all_goals refine r1 ⟨?_,rfl⟩
 all_goals first
  | rw [decide_eq_false (by omega)]
  | (congr 1;exact decide_eq_decide.2 ⟨fun h=>by omega,fun h=>by omega⟩)
set_option maxHeartbeats 4000000 in
theorem SNew_tr (m:MfS) (tv dv:Value) (d:List Int) (ses bud tmo:Int) (hv:tv.oneCell' = true) (hsd:m.seed ≤ 9223372036854775807) (hdl:d.length ≤ 1099511627776) :
  Tr Tryz.prog 8 [.agg #[I m.size,I m.sym,I m.k,I m.seed,tv],dv,I ses,I bud,I tmo] [vw tv (Is m.t),vw dv (By d)] []
   fun v D=>(newSE m d ses bud tmo = 0∧∃ p h,v = tup2 (ptr p) (I 0)∧(SP.new m d ses bud tmo).ok h∧D = sndP p h (SP.new m d ses bud tmo))∨(newSE m d ses bud tmo ≠ 0∧v = tup2 nP (I (newSE m d ses bud tmo))∧D = []):=by
 have hP:=MPut_tr m tv hv hsd
 have hBl:=Blocks_tr m tv hv
 have hdB:=By_len d
 by_cases hok:m.ok
 rotate_left
 ·have e:newSE m d ses bud tmo = 2:=if_neg fun h=>hok h.1
  rw [if_neg hok,show mfE m = 2 from if_neg hok] at hP
  rw [e]
  refine Tr.enter env _ Tryz.func8 (by kernel_rfl) rfl Tryz.ntmps8 rfl (by repeat (first | exact has00 | refine has01 ?_)) fun w0=>?_
  repeat' first|(refine gca ?_;first|(refine ca hP ?_;rintro _ _ ⟨o,rfl,ho,rfl⟩))|refine bx fun q=>?_|refine lda ?_|(refine ln (xs:=By d) ?_;rw [hdB])|(refine wo ?_;first|(refine ao ?_;first|refine oa ?_)|refine oa ?_|refine gn ?_)|(refine gc ?_;first|refine ct ?_)|refine sq ?_|refine rg ?_|refine xc ?_|refine nl ?_|refine rt ?_
  exact r2 (.inr ⟨by decide,rfl,rfl⟩)
 have hbl:=bytes_len m
 have htl:=(mtB_sol hok.2.2.1 hok.2.2.2.2).2
 have hbi:=MfS.blocks_in hok
 rw [if_pos hok,show mfE m = 0 from if_pos hok] at hP
 have hbB:=By_len m.bytes
 by_cases hsz:(d.length:Int) = m.size
 rotate_left
 ·have e:newSE m d ses bud tmo = 2:=if_neg fun h=>hsz h.2
  rw [e]
  refine Tr.enter env _ Tryz.func8 (by kernel_rfl) rfl Tryz.ntmps8 rfl (by repeat (first | exact has00 | refine has01 ?_)) fun w0=>?_
  repeat' first|(refine gca ?_;first|(refine ca hP ?_;rintro _ _ ⟨o,rfl,ho,rfl⟩))|refine bx fun q=>?_|refine lda ?_|(refine ln (xs:=By d) ?_;rw [hdB])|(refine ln (xs:=By m.bytes) ?_;rw [hbB])|(refine wo ?_;first|(refine ao ?_;first|refine oa ?_)|refine oa ?_|refine ld ?_|refine gy ?_|(refine gsi (fun hB=>?_) (fun hB=>?_) <;> try (exfalso;omega)))|(refine gc ?_;first|(refine cn (fun hB=>?_) (fun hB=>?_) <;> try (exfalso;omega)))|refine sq ?_|refine rg ?_|refine xc ?_|refine nl ?_|refine rt ?_
  all_goals first | (exfalso;omega) | exact r2 (.inr ⟨by decide,rfl,rfl⟩)
 by_cases hr:(0 ≤ ses∧ses ≤ 4294967295)∧(0 ≤ bud∧bud ≤ 2147483647)∧1 ≤ tmo∧tmo ≤ 2147483647
 rotate_left
 ·have e:newSE m d ses bud tmo = 3:=by rw [newSE,if_pos ⟨hok,hsz⟩,if_neg hr]
  rw [e]
  refine Tr.enter env _ Tryz.func8 (by kernel_rfl) rfl Tryz.ntmps8 rfl (by repeat (first | exact has00 | refine has01 ?_)) fun w0=>?_
  repeat' first|(refine gca ?_;first|(refine ca hP ?_;rintro _ _ ⟨o,rfl,ho,rfl⟩))|refine bx fun q=>?_|refine lda ?_|(refine ln (xs:=By d) ?_;rw [hdB])|(refine ln (xs:=By m.bytes) ?_;rw [hbB])|(refine cav (B:=[]) (vs:=[I ses,I 0,I 4294967295]) (cap:=#[]) (f:=21) (swithin_tr ses 0 4294967295) ?_ (hs:=Fit.nil);rintro _ _ ⟨rfl,rfl⟩)|(refine cav (B:=[]) (vs:=[I bud,I 0,I 2147483647]) (cap:=#[]) (f:=21) (swithin_tr bud 0 2147483647) ?_ (hs:=Fit.nil);rintro _ _ ⟨rfl,rfl⟩)|(refine cav (B:=[]) (vs:=[I tmo,I 1,I 2147483647]) (cap:=#[]) (f:=21) (swithin_tr tmo 1 2147483647) ?_ (hs:=Fit.nil);rintro _ _ ⟨rfl,rfl⟩)|(refine wo ?_;first|(refine ao ?_;first|refine oa ?_)|refine oa ?_|refine ld ?_|refine gy ?_|refine gn ?_|(refine gsi (fun hB=>?_) (fun hB=>?_) <;> try (exfalso;omega))|(refine gsn (fun hB=>?_) (fun hB=>?_) <;> try (exfalso;omega)))|(refine gc ?_;first|refine ct ?_|(refine cn (fun hB=>?_) (fun hB=>?_) <;> try (exfalso;omega)))|refine sq ?_|refine rg ?_|refine xc ?_|refine nl ?_|refine sk ?_|refine rt ?_
  all_goals first | (exfalso;omega) | exact r2 (.inr ⟨by decide,rfl,rfl⟩)
 have e:newSE m d ses bud tmo = 0:=by rw [newSE,if_pos ⟨hok,hsz⟩,if_pos hr]
 rw [e]
 obtain ⟨nb,hnb⟩ : ∃ nb:Nat,m.blocks = nb:=⟨m.blocks.toNat,by omega⟩
 have hnew:SP.new m d ses bud tmo = ⟨ses,bud,tmo,-1,0,1,m,d,List.replicate nb 0,List.replicate nb false,m.bytes⟩:=by
  unfold SP.new;rw [hnb,Int.toNat_natCast]
 rw [hnew]
 have hEO:=fun (j:Nat) (h:j < nb)=>enc_ok hok d (n:=(j:Int)) (by omega)
 have hSy:=fun (j:Nat) (h:j < nb)=>Symbols_tr m tv dv d (j:Int) hv hok hsz (by omega)
 rw [hnb] at hBl
 have hnbl:nb ≤ 4294967295:=by omega
 refine Tr.enter env _ Tryz.func8 (by kernel_rfl) rfl Tryz.ntmps8 rfl (by repeat (first | exact has00 | refine has01 ?_)) fun w0=>?_
 refine TC.one (v:=tv) (xs:=Is m.t) fun h1t=>?_
 repeat' first|(refine gca ?_;first|(refine ca hP ?_;rintro _ _ ⟨o,rfl,ho,rfl⟩)|(refine ca hBl ?_;rintro _ _ ⟨rfl,rfl⟩))|refine bx fun q=>?_|refine lda ?_|(refine ln (xs:=By d) ?_;rw [hdB])|(refine ln (xs:=By m.bytes) ?_;rw [hbB])|(refine cav (B:=[]) (vs:=[I ses,I 0,I 4294967295]) (cap:=#[]) (f:=21) (swithin_tr ses 0 4294967295) ?_ (hs:=Fit.nil);rintro _ _ ⟨rfl,rfl⟩;rw [decide_eq_true hr.1])|(refine cav (B:=[]) (vs:=[I bud,I 0,I 2147483647]) (cap:=#[]) (f:=21) (swithin_tr bud 0 2147483647) ?_ (hs:=Fit.nil);rintro _ _ ⟨rfl,rfl⟩;rw [decide_eq_true hr.2.1])|(refine cav (B:=[]) (vs:=[I tmo,I 1,I 2147483647]) (cap:=#[]) (f:=21) (swithin_tr tmo 1 2147483647) ?_ (hs:=Fit.nil);rintro _ _ ⟨rfl,rfl⟩;rw [decide_eq_true hr.2.2])|(refine mkc fun c=>?_)|refine bdz ?_|(refine wo ?_;first|(refine ao ?_;first|refine oa ?_)|refine oa ?_|refine ld ?_|refine gy ?_|(refine gsi (fun hB=>?_) (fun hB=>?_) <;> try (exfalso;omega)))|(refine gc ?_;first|refine cf ?_|(refine cn (fun hB=>?_) (fun hB=>?_) <;> try (exfalso;omega)))|refine sq ?_|refine rg ?_|refine xc ?_|refine nl ?_|refine sk ?_|refine bk ?_
 rename_i qm _h0
 refine TC.im (B:=[pt q [I ses,I bud,I tmo,o,nS,nS,I (-1),I 0,I 1,chv c] TSn,chp c 4 [],own TyB o (By m.bytes),pt qm [I m.size,I m.sym,I m.k,I m.seed,tv] TMf,vw tv (Is m.t),vw dv (By d)]) (Im.refl _) ?_
 refine TC.im (prs_nil TPt _) ?_
 refine TC.im (frz_nil _) ?_
 have hNw:∀ (j:Nat) (o2:Value) (hs:List Value),j < nb→Tr Tryz.prog 24 [o2,tv,I m.seed,I j] [vw o2 hs,velg y8 hs (m.syms d j),vw tv (Is m.t)] []
   fun v D=>∃ b cv ov sy hs',v = tup2 (ptr b) (I 0)∧D = encP b cv ov sy hs' m.t m.seed j (m.syms d j)∧cv.oneCell' = true∧ov.oneCell' = true:=by
  intro j o2 hs hj
  refine (New_tr o2 tv hs (m.syms d j) m.t m.seed j).mono ?_
  rintro v D (⟨_,b,cv,ov,sy,hs',rfl,rfl,h1,h2,_⟩ | ⟨hne,_,_⟩)
  ·exact ⟨b,cv,ov,sy,hs',rfl,rfl,h1,h2⟩
  ·exact absurd (hEO j hj) hne
 refine TC.loop (ι:=NwG2) (fun g=>[(65,I g.j)]) (fun g=>[pt q [I ses,I bud,I tmo,o,g.pts,nS,I (-1),I 0,I 1,chv c] TSn,prs TPt g.pts (prsL g.es (List.replicate g.j 0)),frz (encC m d 0 g.es)]) (fun g=>(g.j ≤ nb∧g.es.length = g.j)∧g.pts.oneCell' = true∧∀ (i:Nat) (e:EnH),g.es[i]? = some e→e.ok) (fun g=>nb - g.j) ⟨0,nS,[]⟩ [1,5,15,64] ⟨⟨Nat.zero_le _,rfl⟩,rfl,by simp⟩ ?_ (hf:=by dsimp only;exact fitA)
 rintro ⟨j,pts,es⟩ ⟨⟨g1,g2⟩,g3,g4⟩
 dsimp only at g1 g2 g3 g4 ⊢
 have hLl:(prsL es (List.replicate j 0)).length = j:=by rw [prsL_len (by rw [g2,List.length_replicate]),List.length_replicate]
 by_cases hlt:j < nb
 ·have hEA:=fun e=>encC_app m d es 0 e
  rw [Nat.zero_add,g2] at hEA
  have hPA:=fun e=>prsL_app es j e g2
  generalize hLg:prsL es (List.replicate j 0) = Lp at *
  repeat' first|(refine gca ?_;first|(refine ca (hSy j hlt) ?_;rintro _ _ ⟨o2,hs,rfl,ho2,hhl,rfl⟩)|(refine ca (hNw j o2 hs hlt) ?_;rintro _ _ ⟨b,cv,ov,sy,hs',rfl,rfl,hcv,hov⟩))|refine lda ?_|refine bdz ?_|refine slp (p1:=srcV b) (p2:=I 0) (fun gg=>?_)|refine app (L:=Lp) (p1:=srcV b) (p2:=I 0) (fun pts2 hp2=>?_) (h1:=⟨rfl,rfl⟩)|(refine wo ?_;first|(refine ao ?_;first|refine aw ?_|refine oa ?_)|refine oa ?_|refine ld ?_|refine sr ?_)|(refine gc ?_;first|(refine ci (fun hB=>?_) (fun hB=>?_) <;> try (exfalso;omega)))|refine sq ?_|refine rg ?_|refine xc ?_|refine nl ?_|refine sk ?_|refine bk ?_|refine xb ?_
  refine TX.im (frz_snoc (C:=encC m d 0 es) (D:=encP b cv ov sy hs' m.t m.seed j (m.syms d j)) (by (repeat (first | exact nb0 | refine nb1 ?_));first | done | fail) fitA) ?_
  exact lp ⟨j + 1,pts2,es ++ [⟨b,cv,ov,sy,hs'⟩]⟩ ⟨⟨hlt,by simp [g2]⟩,hp2,fun i e he=>by
   rcases Nat.lt_or_ge i es.length with h | h
   ·rw [List.getElem?_append_left h] at he;exact g4 i e he
   ·rw [List.getElem?_append_right h] at he
    have h0:i - es.length = 0:=by
     rcases Nat.eq_zero_or_pos (i - es.length) with h | h
     ·exact h
     ·rw [List.getElem?_eq_none (by simp;omega)] at he;cases he
    rw [h0] at he
    have:=Option.some.inj he
    subst this
    exact ⟨hcv,hov⟩⟩ (by dsimp only;omega) (hs:=by (repeat (refine Sub.cons rfl (by first | rfl | go_num) ?_));exact Sub.nil) (hf:=by dsimp only;rw [hEA,hPA];exact fitA)
 ·obtain rfl:j = nb:=by omega
  have hBr:Bo (List.replicate j false) = List.replicate j (.bool false):=List.map_replicate ..
  repeat' first|(refine lnp (L:=prsL es (List.replicate j 0)) ?_;rw [hLl])|(refine mk (fun ak=>?_);rw [Int.toNat_natCast];refine TO.one (v:=ak) (xs:=List.replicate j (.bool false)) fun hak=>?_)|(refine wo ?_;first|(refine ao ?_;first|refine oa ?_)|refine oa ?_|refine ld ?_|refine sr ?_)|(refine gc ?_;first|(refine ci (fun hB=>?_) (fun hB=>?_) <;> try (exfalso;omega)))|refine sq ?_|refine rg ?_|refine xc ?_|refine nl ?_|refine xe ?_|refine rt ?_
  rw [← hBr]
  refine r2 (.inl ⟨rfl,q,⟨o,pts,ak,c,es⟩,rfl,?_,rfl⟩)
  exact {
   n1:=by simp
   n2:=by simp [g2]
   n3:=by simp;omega
   enc:=fun i e he=>⟨g4 i e he,hEO i (by have:i < es.length:=(List.getElem?_eq_some_iff.1 he).1;omega)⟩
   bud:=hr.2.1
   tmo:=hr.2.2
   sil:=by dsimp only;omega
   last:=by dsimp only;omega
   sent:=fun i=>by
    dsimp only
    have h0:(List.replicate j (0:Int)).getD i 0 = 0:=by
     rw [List.getD_eq_getElem?_getD,List.getElem?_replicate];split <;> rfl
    rw [h0];have:=hr.2.1;omega
   alv:=fun _=>by dsimp only;omega
   opn:=ho }
end Go.Art.Sn
set_option maxRecDepth 2000
namespace Go.Art.Sn
open Go Go.Proofs Go.RowKit Go.Art
attribute [local irreducible] Fit pt own ro vw mpc lpt vels rels mow lrc dfr
attribute [local irreducible] lmp lme mit velg relg
theorem SamePacket_tr (kd sn bn pn rn:Int) (av bv:Value) (l:List Int) (ha:av.oneCell' = true) (hb:bv.oneCell' = true) (hl:inB l):Tr Tryz.prog 77 [.agg #[I kd,I sn,I bn,I pn,I rn,av],.agg #[I kd,I sn,I bn,I pn,I rn,bv]] [vw av (By l),vw bv (By l)] []
  fun v D=>v = .bool true∧D = []:=by
 have hS:=SameBytes_tr av bv l l hl hl
 rw [decide_eq_true (show l = l from rfl)] at hS
 refine Tr.enter env _ Tryz.func77 (by kernel_rfl) rfl Tryz.ntmps77 rfl (by repeat (first | exact has00 | refine has01 ?_)) fun w0=>?_
 repeat' first|(refine gca ?_;first|(refine ca hS ?_;rintro _ _ ⟨rfl,rfl⟩))|refine bx fun p=>?_|(refine wo ?_;first|(refine ao ?_;first|refine oa ?_)|refine oa ?_|refine ld ?_|refine gy ?_|(refine gsi (fun hB=>?_) (fun hB=>?_) <;> try (exfalso;omega)))|refine sq ?_|refine rg ?_|refine xc ?_|refine nl ?_|refine rt ?_
 all_goals first | (exfalso;omega) | exact r1 ⟨rfl,rfl⟩
theorem told1_tr (v:Value) (os:List Value) (l:List Int) (kd bn pn rn sn0:Int) (wv:Value) (wl:List Int) (hos:os.length = 1) (hg:pgetR l = (⟨kd,9,bn,pn,rn,wl⟩,0)) (hw:wv.oneCell' = true) (hl:l.length ≤ 1099511627776) (hin:inB l) (hwl:inB wl) (hkd:kd ≠ 0) :
  Tr Tryz.prog 43 [v,I 0,.agg #[I kd,I sn0,I bn,I pn,I rn,wv]] [vw v os,velg y8 os [l],vw wv (By wl)] [] fun v D=>v = .bool true∧D = []:=by
 have hG:=fun b=>PGet_tr b l hl hin
 rw [hg] at hG
 dsimp only at hG
 have hSP:=fun av ha=>SamePacket_tr kd 9 bn pn rn av wv wl ha hw hwl
 refine Tr.enter env _ Tryz.func43 (by kernel_rfl) rfl Tryz.ntmps43 rfl (by repeat (first | exact has00 | refine has01 ?_)) fun w0=>?_
 refine TC.elg (g:=y8) (hs:=os) (ls:=[l]) (fun hol=>?_)
 repeat' first|(refine gca ?_;first|(refine ca (hG (os.getD 0 nS)) ?_ (hp:=has1 (has_elg (g:=y8) (ls:=[l]) (i:=0) (has_velg memA) (by simp)) has0);rintro _ _ ⟨dv,rfl,hdv,rfl⟩)|(refine ca (hSP dv hdv) ?_;rintro _ _ ⟨rfl,rfl⟩))|refine bx fun p=>?_|(refine ln (xs:=os) ?_;rw [hos])|refine al fun z=>?_|refine srz ?_|refine lda ?_|(refine wo ?_;first|(refine ao ?_;first|refine oa ?_)|refine oa ?_|refine ld ?_|refine lv ?_|refine ix ?_|refine sr ?_|refine gy ?_)|(refine gc ?_;first|refine cf ?_|(refine ci (fun hB=>?_) (fun hB=>?_) <;> try (exfalso;omega)))|refine sq ?_|refine rg ?_|refine xc ?_|refine nl ?_|refine sk ?_|refine rt ?_
 all_goals first | (exfalso;omega) | exact r1 ⟨rfl,rfl⟩
abbrev m3:MfS:=⟨3,1,2,0,[0,1]⟩
theorem three_tr:Tr Tryz.prog 75 [] [] [] fun v D=>∃ tv,v = .agg #[I 3,I 1,I 2,I 0,tv]∧tv.oneCell' = true∧D = [own 3 tv (Is [0,1])]:=by
 refine Tr.enter env _ Tryz.func75 (by kernel_rfl) rfl Tryz.ntmps75 rfl (by repeat (first | exact has00 | refine has01 ?_)) fun w0=>?_
 repeat' first|refine al fun p=>?_|(refine sli (vs:=[I 0,I 1]) (fun tv=>?_) (h1:=one_cons rfl (one_cons rfl one_nil));refine TO.one (v:=tv) (xs:=[I 0,I 1]) fun h1=>?_)|(refine bdz ?_)|refine srz ?_|refine sq ?_|refine rg ?_|refine xc ?_|refine nl ?_|refine rt ?_
 exact rca1 (vs:=[I 3,I 1,I 2,I 0,tv]) ⟨tv,rfl,h1,rfl⟩
theorem m3_ok:m3.ok:=by unfold MfS.ok;exact ⟨by decide,by decide,by decide,by decide,by decide⟩
theorem made_tr (bud tmo:Int) (hb:0 ≤ bud∧bud ≤ 2147483647) (ht:1 ≤ tmo∧tmo ≤ 2147483647):Tr Tryz.prog 40 [I bud,I tmo] [] []
  fun v D=>∃ p h,v = ptr p∧(SP.new m3 [5,6,7] 9 bud tmo).ok h∧D = sndP p h (SP.new m3 [5,6,7] 9 bud tmo):=by
 have e:newSE m3 [5,6,7] 9 bud tmo = 0:=by rw [newSE,if_pos ⟨m3_ok,rfl⟩,if_pos ⟨by decide,hb,ht⟩]
 have hN:∀ tv dv,tv.oneCell' = true→Tr Tryz.prog 8 [.agg #[I 3,I 1,I 2,I 0,tv],dv,I 9,I bud,I tmo] [vw tv (Is [0,1]),vw dv (By [5,6,7])] []
   fun v D=>∃ p h,v = tup2 (ptr p) (I 0)∧(SP.new m3 [5,6,7] 9 bud tmo).ok h∧D = sndP p h (SP.new m3 [5,6,7] 9 bud tmo):=by
  intro tv dv hv
  refine (SNew_tr m3 tv dv [5,6,7] 9 bud tmo hv (by decide) (by decide)).mono ?_
  rintro v D (⟨_,p,h,rfl,hok,rfl⟩ | ⟨hne,_,_⟩)
  ·exact ⟨p,h,rfl,hok,rfl⟩
  ·exact absurd e hne
 generalize SP.new m3 [5,6,7] 9 bud tmo = s0 at *
 refine Tr.enter env _ Tryz.func40 (by kernel_rfl) rfl Tryz.ntmps40 rfl (by repeat (first | exact has00 | refine has01 ?_)) fun w0=>?_
 repeat' first|(refine gca ?_;first|(refine ca three_tr ?_;rintro _ _ ⟨tv,rfl,htv,rfl⟩)|(refine ca (hN tv dv htv) ?_;rintro _ _ ⟨p,h,rfl,hok,rfl⟩))|(refine sli (vs:=By [5,6,7]) (fun dv=>?_) (h1:=By_one _))|(refine wo ?_;first|(refine ao ?_;first|refine oa ?_)|refine oa ?_)|(refine gc ?_;first|refine cf ?_)|refine sq ?_|refine rg ?_|refine xc ?_|refine nl ?_|refine sk ?_|refine rt ?_
 exact r1 ⟨p,h,rfl,hok,rfl⟩
theorem open9_tr:Tr Tryz.prog 41 [] [] [] fun v D=>∃ o,v = .agg #[I 5,I 0,I 0,I 0,I 0,o]∧o.oneCell' = true∧D = [own TyB o (By m3.bytes)]:=by
 have hP:∀ tv,tv.oneCell' = true→Tr Tryz.prog 20 [.agg #[I 3,I 1,I 2,I 0,tv]] [vw tv (Is [0,1])] [] fun v D=>∃ o,v = tup2 o (I 0)∧o.oneCell' = true∧D = [own TyB o (By m3.bytes)]:=by
  intro tv hv
  have:=MPut_tr m3 tv hv (by decide)
  rw [if_pos m3_ok,show mfE m3 = 0 from if_pos m3_ok] at this
  exact this
 generalize m3.bytes = mb at *
 refine Tr.enter env _ Tryz.func41 (by kernel_rfl) rfl Tryz.ntmps41 rfl (by repeat (first | exact has00 | refine has01 ?_)) fun w0=>?_
 repeat' first|(refine gca ?_;first|(refine ca three_tr ?_;rintro _ _ ⟨tv,rfl,htv,rfl⟩)|(refine ca (hP tv htv) ?_;rintro _ _ ⟨o,rfl,ho,rfl⟩))|refine al fun p=>?_|refine bdz ?_|refine srz ?_|(refine wo ?_;first|refine oa ?_)|refine sq ?_|refine rg ?_|refine xc ?_|refine nl ?_|refine rt ?_
 exact rca1 (vs:=[I 5,I 0,I 0,I 0,I 0,o]) ⟨o,rfl,ho,rfl⟩
end Go.Art.Sn
set_option maxRecDepth 2000
namespace Go.Art.Sn
open Go Go.Proofs Go.RowKit Go.Art
theorem tick_ok {s:SP} {h:SH} (hk:s.ok h):s.tick.1.ok h:=by
 have hsl:=hk.sil
 have htm:=hk.tmo
 have hbd:=hk.bud
 unfold SP.tick
 by_cases ha:s.alive
 rotate_left
 ·rw [if_neg ha];exact hk
 rw [if_pos ha]
 have hal:=hk.alv ha
 by_cases hti:s.tmo ≤ s.sil + 1
 ·rw [if_pos hti]
  exact { hk with
   sil:=by dsimp only;omega
   alv:=fun h=>by unfold SP.alive at h;dsimp only at h;split at h <;> omega }
 rw [if_neg hti]
 have hopen:({ s with sil:=s.sil + 1 }:SP).ok h:={ hk with
  sil:=by dsimp only;omega
  alv:=fun _=>by dsimp only;omega }
 cases hto:turnO s.ack s.last with
 | none=>exact hopen
 | some a=>
  dsimp only
  obtain ⟨hal2,_⟩:=turnO_lt hto
  have hn3:=hk.n3
  by_cases h1:s.st = 1
  ·rw [if_pos h1];exact hopen
  rw [if_neg h1]
  by_cases h2:0 < s.bud
  ·rw [if_pos h2]
   exact { hk with
    n1:=by dsimp only;rw [List.length_set];exact hk.n1
    bud:=by dsimp only;omega
    sil:=by dsimp only;omega
    last:=by dsimp only;omega
    alv:=fun _=>by dsimp only;omega
    sent:=fun j=>by
     have h0:=hk.sent j
     have ha0:=hk.sent a
     dsimp only
     rw [List.getD_eq_getElem?_getD,List.getElem?_set]
     by_cases e:a = j
     ·subst e
      rw [if_pos rfl]
      split
      ·simp only [Option.getD_some];omega
      ·simp only [Option.getD_none];omega
     ·rw [if_neg e,← List.getD_eq_getElem?_getD];omega }
  ·rw [if_neg h2];exact hopen
theorem take_ok {s:SP} {h:SH} (hk:s.ok h) (l:List Int):(s.take l).1.1.ok h:=by
 have hsl:=hk.sil
 have htm:=hk.tmo
 have h0:∀ x,({ s with st:=x,sil:=0 }:SP).ok h:=fun x=>{ hk with
  sil:=by dsimp only;omega
  alv:=fun _=>by dsimp only;omega }
 unfold SP.take
 split
 ·split
  ·exact hk
  ·split
   ·split
    ·exact hk
    ·split
     ·split
      ·split
       ·exact hk
       ·split
        ·exact { h0 2 with
          n1:=by dsimp only;rw [List.length_set];exact hk.n1
          n2:=by dsimp only;rw [List.length_set];exact hk.n2
          n3:=by dsimp only;rw [List.length_set];exact hk.n3 }
        ·exact h0 2
      ·split
       ·exact h0 3
       ·exact h0 6
     ·split
      ·exact hk
      ·exact hk
   ·exact hk
 ·exact hk
attribute [local irreducible] Fit pt own ro vw mpc lpt vels rels mow lrc dfr
attribute [local irreducible] lmp lme mit velg relg
theorem told0_tr (v:Value) (sn0 bn pn rn:Int) (wv:Value):Tr Tryz.prog 43 [v,I 0,.agg #[I 0,I sn0,I bn,I pn,I rn,wv]] [vw v []] [] fun v D=>v = .bool true∧D = []:=by
 refine Tr.enter env _ Tryz.func43 (by kernel_rfl) rfl Tryz.ntmps43 rfl (by repeat (first | exact has00 | refine has01 ?_)) fun w0=>?_
 repeat' first|refine bx fun p=>?_|refine ln (xs:=[]) ?_|(refine wo ?_;first|(refine ao ?_;first|refine oa ?_)|refine oa ?_|refine ld ?_)|(refine gc ?_;first|refine ct ?_|refine cf ?_)|refine sq ?_|refine rg ?_|refine xc ?_|refine nl ?_|refine sk ?_|refine rt ?_
 all_goals first | (exfalso;omega) | exact r1 ⟨rfl,rfl⟩
theorem ticks9_tr1 (p:Nat) (h:SH) (s s':SP) (hk:s.ok h) (l:List Int) (kd bn pn rn sn0:Int) (wv:Value) (wl:List Int) (ht:s.tick = (s',[l])) (hg:pgetR l = (⟨kd,9,bn,pn,rn,wl⟩,0)) (hw:wv.oneCell' = true) (hl:l.length ≤ 1099511627776) (hin:inB l) (hwl:inB wl) (hkd:kd ≠ 0) :
  Tr Tryz.prog 17 [ptr p,.agg #[I kd,I sn0,I bn,I pn,I rn,wv]] [vw wv (By wl)] (sndP p h s) fun v D=>v = .bool true∧D = sndP p h s':=by
 have hT:=Tick_tr p h s hk
 rw [ht] at hT
 dsimp only at hT
 refine Tr.enter env _ Tryz.func17 (by kernel_rfl) rfl Tryz.ntmps17 rfl (by repeat (first | exact has00 | refine has01 ?_)) fun w0=>?_
 repeat' first|(refine gca ?_;first|(refine ca hT ?_;rintro _ _ ⟨o,os,rfl,ho,hos,rfl⟩)|(refine ca (told1_tr o os l kd bn pn rn sn0 wv wl hos hg hw hl hin hwl hkd) ?_;rintro _ _ ⟨rfl,rfl⟩))|refine bx fun b=>?_|refine lda ?_|(refine wo ?_;first|refine oa ?_)|refine sq ?_|refine rg ?_|refine xc ?_|refine nl ?_|refine rt ?_
 exact r1 ⟨rfl,rfl⟩
end Go.Art.Sn
namespace Go.Art
open Go Go.RowKit
def adr (v:Value) (m:Nat):Addr:=(addrAt v 0).add m
theorem adr_add (v:Value) (m o:Nat):(adr v m).add o = adr v (m + o):=Deep.add_add _ _ _
def SlW (w:World) (v:Value) (n:Nat) (xs:List Value):Prop:=
 ∃ a cap,v = .slice a n cap∧n ≤ cap∧cap ≤ maxLen∧(0 < n→∃ x,a = some x)∧∀ i u,xs[i]? = some u→∃ x,a = some x∧w.cell? (x.add i) = some u
theorem SlW.cell {w:World} {v:Value} {n:Nat} {xs:List Value} (h:SlW w v n xs) {i:Nat} {u:Value} (hi:xs[i]? = some u):w.cell? (adr v i) = some u:=by
 obtain ⟨a,cap,rfl,_,_,_,hc⟩:=h
 obtain ⟨x,rfl,hx⟩:=hc i u hi
 show w.cell? ((x.add 0).add i) = _
 rw [Deep.add_add,Nat.zero_add];exact hx
theorem SlW.len {w:World} {v:Value} {n:Nat} {xs:List Value} (h:SlW w v n xs):n ≤ 9223372036854775807:=by
 obtain ⟨_,cap,_,h1,h2,_⟩:=h
 unfold maxLen at h2;omega
theorem add_block (x:Addr) (i:Nat):(x.add i).block = x.block:=by unfold Addr.add;split <;> rfl
def vwf (v:Value) (n:Nat) (xs:List Value):Ch where
 wr:=fun _=>False
 rd:=fun _=>False
 bd:=fun x=>xs ≠ []∧v.ownBlock = some x
 P:=fun w=>SlW w v n xs
 loc:=fun {w w'} h hb=>by
  obtain ⟨a,cap,rfl,h1,h2,h0,h3⟩:=h
  refine ⟨a,cap,rfl,h1,h2,h0,fun i u hi=>?_⟩
  obtain ⟨x,rfl,hx⟩:=h3 i u hi
  exact ⟨x,rfl,(World.cell?_of_block (by rw [add_block];exact hb _ (.inr (.inr ⟨by rintro rfl;simp at hi,rfl⟩)))).trans hx⟩
 lt:=fun {w b} h hb=>by
  rcases hb with hb | hb | ⟨h4,h5⟩
  ·exact hb.elim
  ·exact hb.elim
  ·obtain ⟨a,cap,rfl,h1,h2,h0,h3⟩:=h
   cases xs with
   | nil=>exact absurd rfl h4
   | cons u r=>
    obtain ⟨x,rfl,hx⟩:=h3 0 u rfl
    have:=World.block_lt_of_cell? w _ hx
    rw [add_block] at this
    simp only [Value.ownBlock,Option.some.injEq] at h5
    rw [← h5];exact this
instance (v:Value) (n:Nat) (xs:List Value):Lent (vwf v n xs):=⟨fun _=>⟨fun h=>h,fun h=>h⟩⟩
theorem has_vwf {F:List Ch} {v:Value} {n:Nat} {xs:List Value} (h:vwf v n xs ∈ F):Has F (vwf v n xs):=⟨fun _ hw=>hw.h _ h,fun _ h=>h,fun _ h=>h,fun _ hb=>⟨_,h,hb⟩⟩
theorem has_wf {A:List Ch} {w:World} {v:Value} {n:Nat} {xs:List Value} (h:vwf v n xs ∈ A) (hw:Sat A w):SlW w v n xs:=hw.h (vwf v n xs) h
section
variable {P:Program} {E:Env P} {n:Sh} {X:Cx} {s:List K} {fr:Fr} {A A':List Ch} {ops:Array Oper} {rest:List Oper} {d m N sz by_:Nat} {ty t el:TypeId} {pos:String} {after:Array Edge} {v u z:Value} {x y:Operand} {xs vs:List Value} {dt:TypeDesc} {k1:IntKind} {w:World} {fs:Array Field} {f:Nat} {fld:Field}
theorem TC.lenf {c0:Code} (k:N ≤ 9223372036854775807→TC E n X s c0 fr A) (hm:vwf v N xs ∈ A:=by exact memA):TC E n X s c0 fr A:=TC.fact (fun w hw=>(has_wf hm hw).len) k
theorem lnf (k:TO E n X s ops rest ((d,I N) :: fr) A) (hx:ev fr x = some v:=by rfl) (hm:vwf v N xs ∈ A:=by exact memA) (ht:lk E.und t = some (.slice el):=by rfl) (hd:Nat.blt d n.n = true:=by rfl) :
  TO E n X s ops (⟨some d,.call ⟨.builtin .len,#[x],#[t]⟩,ty,pos,after,none⟩ :: rest) fr A:=TO.val (v:=I N) (fun w h=>⟨fun a ha _ _ _ _=>by
 obtain ⟨_,cap,rfl,_⟩:=has_wf hm h
 simp only [execOp,resolve]
 simp [ha.ev hx,invoke,builtin,Builtin.len_,run_underlying (P:=P) (E.un ht) w,goInt]⟩) k hd
theorem R_idxW {i:Int} (ht:lk E.und t = some (.slice el)) (he:lk E.inf el = some (z,sz,by_)) (hx:ev fr x = some v) (hy:ev fr y = some (.int k1 i)) (hS:SlW w v N xs) (h:0 ≤ i∧i < N):OpV P n fr (.indexAddr t x y) ty w (.pointer (some (adr v (sz * i.toNat)))) w:=⟨fun b hb _ _ _ _=>by
 obtain ⟨a,cap,rfl,h1,h2,h0,hc⟩:=hS
 obtain ⟨inf,hi,_,hsz,_⟩:=E.info he
 obtain ⟨ad,rfl⟩:=h0 (by omega)
 simp only [execOp,hb.ev hx,hb.ev hy]
 simp [Instr.indexAt,asIntOf,run_underlying (P:=P) (E.un ht) w,h,sizeOf,typeInfo,hi,hsz,adr,addrAt,Deep.add_add,Nat.mul_comm]⟩
theorem ixf {i:Int} (k:TO E n X s ops rest ((d,.pointer (some (adr v (sz * i.toNat)))) :: fr) A) (hx:ev fr x = some v:=by rfl) (hy:ev fr y = some (.int k1 i):=by rfl) (hm:vwf v N xs ∈ A:=by exact memA) (hb:0 ≤ i∧i < N:=by omega)
  (ht:lk E.und t = some (.slice el):=by rfl) (he:lk E.inf el = some (z,sz,by_):=by rfl) (hd:Nat.blt d n.n = true:=by rfl):TO E n X s ops (⟨some d,.indexAddr t x y,ty,pos,after,none⟩ :: rest) fr A:=TO.val (fun _ h=>R_idxW ht he hx hy (has_wf hm h) hb) k hd
theorem ixfn {i:Nat} (k:TO E n X s ops rest ((d,.pointer (some (adr v (sz * i)))) :: fr) A) (hx:ev fr x = some v:=by rfl) (hy:ev fr y = some (.int k1 (i:Int)):=by rfl) (hm:vwf v N xs ∈ A:=by exact memA) (hb:i < N:=by omega)
  (ht:lk E.und t = some (.slice el):=by rfl) (he:lk E.inf el = some (z,sz,by_):=by rfl) (hd:Nat.blt d n.n = true:=by rfl):TO E n X s ops (⟨some d,.indexAddr t x y,ty,pos,after,none⟩ :: rest) fr A:=ixf (i:=(i:Int)) k hx hy hm (by omega) ht he hd
theorem R_fldW (ht:lk E.und t = some (.struct fs)) (hf:fs[f]? = some fld) (he:lk E.inf fld.type = some (z,sz,by_)) (hsz:Nat.beq sz 0 = false) (hx:ev fr x = some (.pointer (some (adr v m)))):OpV P n fr (.fieldAddr t x f) ty w (.pointer (some (adr v (m + fld.offset)))) w:=⟨fun a ha _ _ _ _=>by
 obtain ⟨inf,hi,_,hs,_⟩:=E.info he
 have h0:¬ sz = 0:=nbeq_ne hsz
 simp only [execOp,ha.ev hx]
 simp [Instr.fieldAt,run_underlying (P:=P) (E.un ht) w,hf,Instr.sureAddr,fieldPlace,sizeOf,typeInfo,hi,hs,h0,adr_add]⟩
theorem faf {nm tg pk:String} {fty:TypeId} {off bo:Nat} {em:Bool} (k:TO E n X s ops rest ((d,.pointer (some (adr v (m + off)))) :: fr) A) (hx:ev fr x = some (.pointer (some (adr v m))):=by rfl) (ht:lk E.und t = some (.struct fs):=by rfl) (hf:fs[f]? = some ⟨nm,fty,off,em,tg,pk,bo⟩:=by rfl) (he:lk E.inf fty = some (z,sz,by_):=by rfl) (hsz:Nat.beq sz 0 = false:=by rfl) (hd:Nat.blt d n.n = true:=by rfl) :
  TO E n X s ops (⟨some d,.fieldAddr t x f,ty,pos,after,none⟩ :: rest) fr A:=TO.val (fun _ _=>R_fldW ht hf he hsz hx) k hd
theorem ldf (hj:xs[m]? = some u) (k:TO E n X s ops rest ((d,u) :: fr) A) (hx:ev fr x = some (.pointer (some (adr v m))):=by rfl) (hm:vwf v N xs ∈ A:=by exact memA) (ht:lk E.und t = some dt:=by rfl) (hg:aggB dt = false:=by rfl) (hd:Nat.blt d n.n = true:=by rfl) :
  TO E n X s ops (⟨some d,.load t x,ty,pos,after,none⟩ :: rest) fr A:=TO.val (fun _ h=>R_load ht hg hx ((has_wf hm h).cell hj)) k hd
theorem R_loadW (ht:lk E.und t = some dt) (hg:aggB dt = true) (hi:lk E.inf t = some (z,sz,by_)) (hx:ev fr x = some (.pointer (some (adr v m)))) (hS:SlW w v N xs) (hv:(xs.drop m).take sz = vs) (hl:vs.length = sz):OpV P n fr (.load t x) ty w (.agg vs.toArray) w:=⟨fun a ha _ _ _ _=>by
 obtain ⟨inf,h1,_,h2,_⟩:=E.info hi
 have h3:=run_loadCells_list (P:=P) w (adr v m) vs (fun j u hm=>by
  rw [adr_add]
  refine hS.cell ?_
  rw [← hv,List.getElem?_take] at hm
  split at hm
  ·rw [List.getElem?_drop] at hm;simpa using hm
  ·cases hm)
 rw [hl] at h3
 simp only [execOp,ha.ev hx]
 simp [Instr.loadAt,Instr.sureAddr,loadVar,aggB_t (w:=w) ht hg,sizeOf,typeInfo,h1,h2,h3]⟩
theorem ldaf (hv:(xs.drop m).take sz = vs) (k:TO E n X s ops rest ((d,.agg vs.toArray) :: fr) A) (hx:ev fr x = some (.pointer (some (adr v m))):=by rfl) (hm:vwf v N xs ∈ A:=by exact memA) (ht:lk E.und t = some dt:=by rfl) (hg:aggB dt = true:=by rfl) (hi:lk E.inf t = some (z,sz,by_):=by rfl) (hl:vs.length = sz:=by rfl) (hd:Nat.blt d n.n = true:=by rfl) :
  TO E n X s ops (⟨some d,.load t x,ty,pos,after,none⟩ :: rest) fr A:=TO.val (fun _ h=>R_loadW ht hg hi hx (has_wf hm h) hv hl) k hd
end
end Go.Art
