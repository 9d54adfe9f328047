/- Texts put together: Y Env Ka Na Wg Bb Cl Sz Sg Ct LayMul LayLen LayLz Nb Oo Ne Xr Cp Nf Ng Oa Nh Ni Nc Nd Nj Nk Nl Gt Nm Nn No Np. Conditions: none. -/
import Derived.Test.YtpabbhpgikdhfaaGreatWTa
set_option linter.unusedSimpArgs false
set_option linter.unusedVariables false
namespace Go.Art
open Go Go.RowKit
section
variable {P:Program} {E:Env P} {n:Sh} {Q0:Exit→Act→World→Prop} {s:List K} {fr:Fr} {w:World} {ops:Array Oper} {rest:List Oper} {d:Nat} {ty:TypeId} {pos:String} {after:Array Edge} {v z:Value} {x y:Operand} {t:TypeId} {b j sz by_:Nat}
theorem aggB_t {dt:TypeDesc} (ht:lk E.und t = some dt) (hd:aggB dt = true):(isAgg t).run P w = .ok true w:=by
 simp only [isAgg,Sem.run_bind,run_underlying (P:=P) (E.un ht) w,Result.andThen_ok]
 cases dt <;> first | rfl | (simp [aggB] at hd)
theorem R_loadA {cs vs:List Value} {T:TypeId} {dt:TypeDesc} (ht:lk E.und t = some dt) (hg:aggB dt = true) (hi:lk E.inf t = some (z,sz,by_)) (hx:ev fr x = some (.pointer (some ⟨b,j,none⟩))) (hb:w.heap[b]? = some (.cells cs.toArray T (0,0))) (hv:(cs.drop j).take sz = vs) (hl:vs.length = sz) :
  OpV P n fr (.load t x) ty w (.agg vs.toArray) w:=⟨fun a ha _ _ _ _=>by
 obtain ⟨inf,h1,_,h2,_⟩:=E.info hi
 have h3:=run_loadCells_list (P:=P) w ⟨b,j,none⟩ vs (fun m u hm=>by
  rw [Addr.add_lit]
  refine blk_cell hb ?_
  rw [← hv,List.getElem?_take] at hm
  split at hm
  ·rw [List.getElem?_drop] at hm;simpa using hm
  ·cases hm)
 rw [hl] at h3
 simp only [execOp,ha.ev hx]
 simp [Instr.loadAt,Instr.sureAddr,loadVar,aggB_t (w:=w) ht hg,sizeOf,typeInfo,h1,h2,h3]⟩
theorem SO_storeA {cs vs:List Value} {T:TypeId} (hi:lk E.inf t = some (z,sz,by_)) (ha:ev fr x = some (.pointer (some ⟨b,j,none⟩))) (hx:ev fr y = some (.agg vs.toArray)) (hl:vs.length = sz) (h1:∀ v ∈ vs,v.oneCell' = true)
  (hb:w.heap[b]? = some (.cells cs.toArray T (0,0))) (hj:j + sz ≤ cs.length) (h:∀ w',Upd w w' [b]→w'.heap[b]? = some (.cells (cs.take j ++ vs ++ cs.drop (j + sz)).toArray T (0,0))→SO E n Q0 s ops rest fr w') :
  SO E n Q0 s ops (⟨none,.store t x y,ty,pos,after,none⟩ :: rest) fr w:=by
 obtain ⟨inf,h2,_,h3,_⟩:=E.info hi
 have hst:=run_storeCells_at P b j T vs 0 cs.toArray w hb (by simpa [hl] using hj) h1
 simp only [Nat.add_zero] at hst
 refine SO_u (w':=w.setRow b (cs.take j ++ vs ++ cs.drop (j + sz)).toArray) ⟨fun a ha' _ _ _ _=>?_⟩ (h _ (Upd.setRow w b _) (setRow_heap w b cs.toArray _ T _ hb))
 simp only [execOp,ha'.ev ha,ha'.ev hx]
 simp [Instr.storeAt,Instr.sureAddr,storeVar,sizeOf,typeInfo,h2,h3,Value.cells,hl,hst,Addr.add]
def setParts1 (pl:List (Nat × Nat)):List Value→List (Nat × Value)→Option (List Value)
 | cs,[]=>some cs
 | cs,(i,v) :: r=>match pl[i]? with
  | some (off,sz)=>bif Nat.beq sz 1 && Nat.ble (off + 1) cs.length then setParts1 pl (cs.set off v) r else none
  | none=>none
theorem setParts_one {pl:List (Nat × Nat)}:∀ {vs:List (Nat × Value)} {cs cs':List Value},(∀ p ∈ vs,p.2.oneCell' = true)→setParts1 pl cs vs = some cs'→setParts pl cs vs = some cs'
 | [],_,_,_,h=>h
 | (i,v) :: r,cs,cs',h1,h=>by
  simp only [setParts1] at h
  simp only [setParts]
  split at h
  ·rename_i off sz hp
   by_cases hc:(Nat.beq sz 1 && Nat.ble (off + 1) cs.length) = true
   ·rw [hc,cond_true] at h
    simp only [Bool.and_eq_true] at hc
    obtain rfl:=Nat.eq_of_beq_eq_true hc.1
    have h2:=Nat.le_of_ble_eq_true hc.2
    have hv:v.cells = #[v]:=oneCell_cells (h1 (i,v) (by simp))
    rw [hp]
    simp only [hv]
    have e:(Nat.beq (#[v]:Array Value).size 1 && Nat.ble (off + 1) cs.length) = true:=by simp [hc.2]
    rw [e,cond_true]
    have e2:cs.take off ++ (#[v]:Array Value).toList ++ cs.drop (off + 1) = cs.set off v:=by
     rw [List.set_eq_take_append_cons_drop,if_pos (by omega)];simp
    rw [e2]
    exact setParts_one (fun p hp=>h1 p (by simp [hp])) h
   ·have:(Nat.beq sz 1 && Nat.ble (off + 1) cs.length) = false:=by simpa only [Bool.not_eq_true] using hc
    rw [this,cond_false] at h;cases h
  ·cases h
theorem R_buildC {fs:List Field} {zs cs:List Value} {pl:List (Nat × Nat)} {parts:List (Nat × Operand)} {vs:List (Nat × Value)} (h1:∀ p ∈ vs,p.2.oneCell' = true) (ht:lk E.und t = some (.struct fs.toArray)) (he:lk E.inf t = some (.agg zs.toArray,sz,by_))
  (hpl:places E.inf fs = some pl) (hv:evps fr parts = some vs) (hs:setParts1 pl zs vs = some cs):OpV P n fr (.build t parts.toArray) ty w (.agg cs.toArray) w:=R_build ht he hpl hv (setParts_one h1 hs)
end
section
variable {P:Program} {E:Env P} {n:Sh} {X:Cx} {s:List K} {fr:Fr} {A A' B F:List Ch} {ops:Array Oper} {rest:List Oper} {d:Nat} {ty:TypeId} {pos:String} {after:Array Edge} {v z:Value} {t T:TypeId} {x y:Operand} {b j sz by_:Nat} {cs vs cs':List Value} {dt:TypeDesc} {fs:Array Field} {i:Nat} {f:Field}
theorem bdc {fl:List Field} {zs:List Value} {pl:List (Nat × Nat)} {parts:List (Nat × Operand)} {ps:List (Nat × Value)} (h1:∀ p ∈ ps,p.2.oneCell' = true) (k:TO E n X s ops rest ((d,.agg cs.toArray) :: fr) A) (hv:evps fr parts = some ps:=by rfl) (ht:lk E.und t = some (.struct fl.toArray):=by rfl) (he:lk E.inf t = some (.agg zs.toArray,sz,by_):=by rfl)
  (hpl:places E.inf fl = some pl:=by rfl) (hs:setParts1 pl zs ps = some cs:=by rfl) (hd:Nat.blt d n.n = true:=by rfl):TO E n X s ops (⟨some d,.build t parts.toArray,ty,pos,after,none⟩ :: rest) fr A:=TO.val (fun _ _=>R_buildC h1 ht he hpl hv hs) k hd
theorem lda (k:TO E n X s ops rest ((d,.agg vs.toArray) :: fr) A) (hx:ev fr x = some (.pointer (some ⟨b,j,none⟩)):=by rfl) (hm:pt b cs T ∈ A:=by exact memA) (ht:lk E.und t = some dt:=by rfl) (hg:aggB dt = true:=by rfl) (hi:lk E.inf t = some (z,sz,by_):=by rfl)
  (hv:(cs.drop j).take sz = vs:=by rfl) (hl:vs.length = sz:=by rfl) (hd:Nat.blt d n.n = true:=by rfl):TO E n X s ops (⟨some d,.load t x,ty,pos,after,none⟩ :: rest) fr A:=TO.val (fun _ h=>R_loadA ht hg hi hx (h.h (pt b cs T) hm) hv hl) k hd
theorem sra (k:TO E n X s ops rest fr (pt b cs' T :: A')) (ha:ev fr x = some (.pointer (some ⟨b,j,none⟩)):=by rfl) (hm:Tk (pt b cs T) A A':=by exact tkA) (hx:ev fr y = some (.agg vs.toArray):=by rfl) (hi:lk E.inf t = some (z,sz,by_):=by rfl) (hl:vs.length = sz:=by rfl)
  (h1:∀ v ∈ vs,v.oneCell' = true:=by simp;first | done | rfl | assumption) (hj:j + sz ≤ cs.length:=by decide) (hs:cs.take j ++ vs ++ cs.drop (j + sz) = cs':=by rfl):TO E n X s ops (⟨none,.store t x y,ty,pos,after,none⟩ :: rest) fr A:=⟨fun w hw=>by
 subst hs
 have h2:=hw.im hm
 refine SO_storeA hi ha hx hl h1 (h2.mem (List.Mem.head _)) hj fun w' hU hb=>k.run w' (h2.set hU (by simp [pt]) hb ?_ (by simp [pt]))
 rintro x (rfl | h | h);exact .inl rfl;exact h.elim;exact h.elim⟩
end
end Go.Art
namespace Go.Art
open Go Go.Proofs
def tyUnd:List (Nat × TypeDesc):=[(2,.int .i64),
 (3,.int .i64),
 (4,.bool),
 (5,.int .u8),
 (9,.string),
 (12,.int .u64),
 (13,.struct #[⟨ "msg", 9,0,false, "", "runtime", 0⟩,⟨ "addr", 12,1,false, "", "runtime", 16⟩]),
 (19,.struct #[⟨ "typ", 17,0,false, "", "internal/runtime/maps", 0⟩]),
 (21,.int .i32),
 (22,.slice 3),
 (26,.slice 35),
 (27,.int .i64),
 (30,.slice 145),
 (31,.slice 145),
 (32,.struct #[⟨ "Below", 4,0,false, "", "", 0⟩,⟨ "N", 31,1,false, "", "", 8⟩]),
 (33,.struct #[⟨ "Below", 4,0,false, "", "", 0⟩,⟨ "N", 31,1,false, "", "", 8⟩]),
 (34,.struct #[⟨ "Up", 33,0,false, "", "", 0⟩,⟨ "Down", 31,2,false, "", "", 32⟩]),
 (35,.struct #[⟨ "Up", 33,0,false, "", "", 0⟩,⟨ "Down", 31,2,false, "", "", 32⟩]),
 (41,.slice 45),
 (44,.struct #[⟨ "Cloud", 3,0,false, "", "", 0⟩,⟨ "Ripple", 3,1,false, "", "", 8⟩,⟨ "Mass", 35,2,false, "", "", 16⟩]),
 (45,.struct #[⟨ "Cloud", 3,0,false, "", "", 0⟩,⟨ "Ripple", 3,1,false, "", "", 8⟩,⟨ "Mass", 35,2,false, "", "", 16⟩]),
 (56,.slice 22),
 (79,.struct #[⟨ "n", 3,0,false, "", "artesian/ripple", 0⟩,⟨ "l", 26,1,false, "", "artesian/ripple", 8⟩]),
 (80,.struct #[⟨ "n", 3,0,false, "", "artesian/ripple", 0⟩,⟨ "l", 26,1,false, "", "artesian/ripple", 8⟩]),
 (85,.array 2 3),
 (86,.slice 90),
 (88,.slice 92),
 (89,.struct #[⟨ "L", 88,0,false, "", "", 0⟩,⟨ "Down", 31,1,false, "", "", 24⟩]),
 (90,.struct #[⟨ "L", 88,0,false, "", "", 0⟩,⟨ "Down", 31,1,false, "", "", 24⟩]),
 (92,.slice 31),
 (110,.slice 125),
 (115,.struct #[⟨ "Total", 3,0,false, "", "", 0⟩,⟨ "Cut", 22,1,false, "", "", 8⟩,⟨ "Other", 22,2,false, "", "", 32⟩]),
 (116,.struct #[⟨ "Total", 3,0,false, "", "", 0⟩,⟨ "Cut", 22,1,false, "", "", 8⟩,⟨ "Other", 22,2,false, "", "", 32⟩]),
 (121,.pointer 183),
 (124,.struct #[⟨ "set", 22,0,false, "", "artesian/mass", 0⟩,⟨ "mass", 35,1,false, "", "artesian/mass", 24⟩]),
 (125,.struct #[⟨ "set", 22,0,false, "", "artesian/mass", 0⟩,⟨ "mass", 35,1,false, "", "artesian/mass", 24⟩]),
 (145,.int .u64),
 (160,.map 3 162),
 (161,.struct #[⟨ "sets", 22,0,false, "", "artesian/stop", 0⟩]),
 (162,.struct #[⟨ "sets", 22,0,false, "", "artesian/stop", 0⟩]),
 (170,.slice 3),
 (177,.pointer 179),
 (178,.struct #[⟨ "l", 22,0,false, "", "artesian/lots", 0⟩]),
 (179,.struct #[⟨ "l", 22,0,false, "", "artesian/lots", 0⟩]),
 (182,.struct #[⟨ "source", 181,0,true, "", "artesian/lots", 0⟩,⟨ "used", 3,1,false, "", "artesian/lots", 16⟩,⟨ "broken", 4,2,false, "", "artesian/lots", 24⟩]),
 (183,.struct #[⟨ "source", 181,0,true, "", "artesian/lots", 0⟩,⟨ "used", 3,1,false, "", "artesian/lots", 16⟩,⟨ "broken", 4,2,false, "", "artesian/lots", 24⟩]),
 (193,.pointer 35),
 (200,.array 2 149),
 (207,.slice 3),
 (211,.pointer 170),
 (223,.array 2 26),
 (230,.int .u64),
 (235,.pointer 207),
 (243,.map 3 3),
 (244,.map 3 3),
 (261,.int .i64),
 (267,.int .u32),
 (272,.int .u64),
 (276,.pointer 3),
 (278,.pointer 272),
 (290,.pointer 5),
 (39,.func #[35] #[] false),
 (91,.func #[31,31] #[31] false),
 (100,.func #[35,35] #[35] false),
 (114,.func #[3,56] #[4] false),
 (132,.func #[26,26] #[26] true),
 (134,.func #[35,26] #[35] true),
 (151,.func #[22] #[4] false),
 (181,.interface #[("artesian/lots.draw", 242)]),
 (191,.func #[3,3] #[35] false),
 (224,.func #[3,3,35] #[35] false),
 (269,.interface #[("Error", 281)]),
 (1,.func #[] #[] false),
 (20,.interface #[]),
 (23,.func #[22,3,3] #[4] false),
 (24,.func #[] #[4] false),
 (25,.func #[22] #[22] false),
 (29,.func #[22,3,3] #[26,27] false),
 (37,.func #[22,3,3] #[35,27] false),
 (38,.func #[35,35] #[4] false),
 (40,.func #[22,22] #[4] false),
 (43,.func #[22,3,3,3] #[41,27] false),
 (46,.func #[22,3,3,3] #[4] false),
 (47,.func #[45,3,3,3,3] #[4] false),
 (48,.func #[35,27,3,3] #[4] false),
 (49,.func #[22,3,3,3,3] #[4] false),
 (50,.func #[3,3] #[3] false),
 (52,.func #[22,3] #[22,4] false),
 (53,.func #[26] #[35,27] true),
 (55,.func #[35,35] #[3,27] false),
 (58,.func #[22,3] #[56,27] false),
 (59,.func #[3,3] #[35,27] false),
 (60,.func #[22,3,56,56,35,3,26] #[4] false),
 (61,.func #[35,3] #[4] false),
 (62,.func #[35] #[35] false),
 (64,.func #[22,3,35,3] #[3,35,27] false),
 (65,.func #[22,3,35,3] #[4] false),
 (66,.func #[35,3,3] #[4] false),
 (67,.func #[22,3,35,3,3,3,3,27] #[4] false),
 (68,.func #[] #[35] false),
 (70,.func #[22,3] #[22,3] false),
 (71,.func #[22,3] #[27] false),
 (72,.func #[33] #[3] false),
 (74,.func #[22,3,56,56,3] #[35,4] false),
 (75,.func #[22,3,3] #[27] false),
 (76,.func #[139] #[] false),
 (77,.func #[139] #[] false),
 (78,.func #[22,3,3] #[77] false),
 (81,.func #[3] #[35] false),
 (82,.func #[142] #[] false),
 (83,.func #[142] #[] false),
 (84,.func #[] #[83] false),
 (87,.func #[22,3,3] #[86] false),
 (93,.func #[31,31] #[35] false),
 (94,.func #[33,33] #[4] false),
 (95,.func #[31,31] #[4] false),
 (96,.func #[31] #[] false),
 (97,.func #[35] #[4] false),
 (98,.func #[35,100,26] #[35,27] false),
 (99,.func #[] #[31] false),
 (101,.func #[35,35] #[35,27] false),
 (102,.func #[151] #[] false),
 (103,.func #[151] #[] false),
 (104,.func #[3,3,3,22] #[103] false),
 (105,.func #[3] #[33] false),
 (106,.func #[33,31] #[35,27] false),
 (107,.func #[4,31] #[33] false),
 (109,.func #[3,56] #[22,27] false),
 (112,.func #[22,3,3] #[110,27] false),
 (113,.func #[110,3,3,114] #[35,27] false),
 (118,.func #[22] #[116,27] false),
 (119,.func #[116,3] #[56,27] false),
 (120,.func #[116,3,121] #[22,27] false),
 (122,.func #[22] #[121] false),
 (123,.func #[116,3,3] #[35,27] false),
 (126,.func #[33] #[33] false),
 (127,.func #[31] #[31] false),
 (128,.func #[35] #[27] false),
 (129,.func #[187] #[] false),
 (130,.func #[187] #[] false),
 (131,.func #[22,3,3] #[130] false),
 (133,.func #[130,26,132] #[26] false),
 (135,.func #[130,35,134] #[35] false),
 (137,.func #[3,56] #[4,27] false),
 (138,.func #[22,3,22] #[35,4] false),
 (139,.func #[3,80] #[4] false),
 (140,.func #[22,3,3] #[80] false),
 (141,.func #[80,22,3,3] #[80] false),
 (142,.func #[85,35] #[4] false),
 (143,.func #[22,3,3] #[90] false),
 (144,.func #[90,22,3,3,3] #[90] false),
 (146,.func #[31,3] #[145] false),
 (147,.func #[26] #[4] true),
 (148,.func #[31] #[33] false),
 (149,.func #[33,33] #[33] false),
 (150,.func #[33,31] #[35] false),
 (152,.func #[145] #[31] false),
 (153,.func #[33] #[27] false),
 (154,.func #[31] #[3] false),
 (155,.func #[3,56] #[27] false),
 (156,.func #[158] #[22] false),
 (157,.func #[206] #[] false),
 (158,.func #[206] #[] false),
 (159,.func #[160] #[158] false),
 (163,.func #[3,56] #[160] false),
 (165,.func #[3,3] #[31,27] false),
 (166,.func #[31,145] #[31] false),
 (167,.func #[22] #[3] false),
 (168,.func #[3,3] #[4] false),
 (169,.func #[3,3] #[103] false),
 (171,.func #[3] #[] false),
 (172,.func #[] #[3] false),
 (173,.func #[116,3] #[27] false),
 (174,.func #[116,3] #[103] false),
 (175,.func #[116,121] #[3,27] false),
 (176,.func #[121,3,3] #[22,27] false),
 (180,.interface #[("artesian/lots.draw", 242)]),
 (184,.func #[31] #[35] false),
 (185,.func #[31] #[27] false),
 (186,.func #[31,31] #[3] false),
 (187,.func #[3,35] #[4] false),
 (188,.func #[33,33] #[3] false),
 (189,.func #[3,35] #[80] false),
 (190,.func #[22,3,3,3] #[35,27] false),
 (192,.func #[35] #[191] false),
 (194,.func #[3,3] #[193] false),
 (195,.func #[3,31] #[90] false),
 (196,.func #[31,3] #[31] false),
 (197,.func #[3,3,31,31,3] #[31] false),
 (198,.func #[31,31,3] #[88] false),
 (199,.func #[90,3] #[90] false),
 (201,.func #[31,31,3] #[31] false),
 (202,.func #[145] #[3] false),
 (203,.func #[56,151] #[4] false),
 (204,.func #[3,22] #[4] false),
 (205,.func #[22] #[] false),
 (206,.func #[3] #[4] false),
 (210,.func #[31,145] #[31,145,27] false),
 (212,.func #[116] #[27] false),
 (213,.func #[116,3,3] #[3,27] false),
 (214,.func #[22,3,3] #[103] false),
 (215,.func #[3] #[3,27] false),
 (216,.func #[22] #[158] false),
 (217,.func #[247] #[] false),
 (218,.func #[247] #[] false),
 (219,.func #[31,31] #[218] false),
 (221,.func #[31,31] #[31,31,27] false),
 (222,.func #[22,3,3,3] #[35] false),
 (225,.func #[3,3,3,3] #[35] false),
 (226,.func #[31,31] #[31,27] false),
 (227,.func #[31] #[31,31] false),
 (229,.func #[31,92] #[31] true),
 (231,.func #[56,151] #[3] false),
 (232,.func #[22,158] #[22] false),
 (233,.func #[22,3,3,3] #[] false),
 (234,.func #[230] #[3] false),
 (237,.func #[145,145,145] #[145,145] false),
 (238,.func #[31,31,145] #[] false),
 (239,.func #[3] #[206] false),
 (240,.func #[22,206] #[4] false),
 (242,.func #[3] #[3,4] false),
 (245,.func #[3,3] #[] false),
 (246,.func #[3] #[3] false),
 (247,.func #[145,145] #[4] false),
 (248,.func #[31,3] #[31,27] false),
 (249,.func #[31,31] #[145] false),
 (250,.func #[31,4] #[] false),
 (251,.func #[31,3] #[4] false),
 (252,.func #[31,31] #[] false),
 (253,.func #[255,35,100] #[35] false),
 (254,.func #[97] #[] false),
 (255,.func #[97] #[] false),
 (256,.func #[22,3,3,3] #[255] false),
 (257,.func #[3] #[92] false),
 (258,.func #[145,145] #[145,145] false),
 (259,.func #[3] #[31] false),
 (260,.func #[22,3,3] #[] false),
 (263,.func #[22,3,3] #[3,261] false),
 (264,.func #[22,3,3,3] #[3] false),
 (265,.func #[22,3,3,3] #[3,4] false),
 (266,.func #[267] #[3] false),
 (268,.interface #[("Error", 281)]),
 (270,.func #[22,206] #[3] false),
 (271,.func #[92] #[92] false),
 (273,.func #[3] #[230] false),
 (274,.func #[] #[145] false),
 (275,.func #[22,3,276] #[3] false),
 (277,.func #[22,3,3,3,276] #[3] false),
 (280,.func #[22,3,3,276] #[3,3] false),
 (281,.func #[] #[9] false),
 (289,.func #[295,295] #[4] false)]
def tyInf:List (Nat × (Value × Nat × Nat)):=[(2,(.int .i64 0,1,8)),
 (3,(.int .i64 0,1,8)),
 (4,(.bool false,1,1)),
 (5,(.int .u8 0,1,1)),
 (9,(.string ByteArray.empty,1,16)),
 (12,(.int .u64 0,1,8)),
 (13,(.agg #[.string ByteArray.empty,.int .u64 0],2,24)),
 (19,(.agg #[.pointer none],1,8)),
 (21,(.int .i32 0,1,4)),
 (22,(.slice none 0 0,1,24)),
 (26,(.slice none 0 0,1,24)),
 (27,(.int .i64 0,1,8)),
 (30,(.slice none 0 0,1,24)),
 (31,(.slice none 0 0,1,24)),
 (32,(.agg #[.bool false,.slice none 0 0],2,32)),
 (33,(.agg #[.bool false,.slice none 0 0],2,32)),
 (34,(.agg #[.bool false,.slice none 0 0,.slice none 0 0],3,56)),
 (35,(.agg #[.bool false,.slice none 0 0,.slice none 0 0],3,56)),
 (41,(.slice none 0 0,1,24)),
 (44,(.agg #[.int .i64 0,.int .i64 0,.bool false,.slice none 0 0,.slice none 0 0],5,72)),
 (45,(.agg #[.int .i64 0,.int .i64 0,.bool false,.slice none 0 0,.slice none 0 0],5,72)),
 (56,(.slice none 0 0,1,24)),
 (79,(.agg #[.int .i64 0,.slice none 0 0],2,32)),
 (80,(.agg #[.int .i64 0,.slice none 0 0],2,32)),
 (85,(.agg #[.int .i64 0,.int .i64 0],2,16)),
 (86,(.slice none 0 0,1,24)),
 (88,(.slice none 0 0,1,24)),
 (89,(.agg #[.slice none 0 0,.slice none 0 0],2,48)),
 (90,(.agg #[.slice none 0 0,.slice none 0 0],2,48)),
 (92,(.slice none 0 0,1,24)),
 (110,(.slice none 0 0,1,24)),
 (115,(.agg #[.int .i64 0,.slice none 0 0,.slice none 0 0],3,56)),
 (116,(.agg #[.int .i64 0,.slice none 0 0,.slice none 0 0],3,56)),
 (121,(.pointer none,1,8)),
 (124,(.agg #[.slice none 0 0,.bool false,.slice none 0 0,.slice none 0 0],4,80)),
 (125,(.agg #[.slice none 0 0,.bool false,.slice none 0 0,.slice none 0 0],4,80)),
 (145,(.int .u64 0,1,8)),
 (160,(.map none,1,8)),
 (161,(.agg #[.slice none 0 0],1,24)),
 (162,(.agg #[.slice none 0 0],1,24)),
 (170,(.slice none 0 0,1,24)),
 (177,(.pointer none,1,8)),
 (178,(.agg #[.slice none 0 0],1,24)),
 (179,(.agg #[.slice none 0 0],1,24)),
 (182,(.agg #[.nilIface,.int .i64 0,.bool false],3,32)),
 (183,(.agg #[.nilIface,.int .i64 0,.bool false],3,32)),
 (193,(.pointer none,1,8)),
 (200,(.agg #[.nilFunc,.nilFunc],2,16)),
 (207,(.slice none 0 0,1,24)),
 (211,(.pointer none,1,8)),
 (223,(.agg #[.slice none 0 0,.slice none 0 0],2,48)),
 (230,(.int .u64 0,1,8)),
 (235,(.pointer none,1,8)),
 (243,(.map none,1,8)),
 (244,(.map none,1,8)),
 (261,(.int .i64 0,1,8)),
 (267,(.int .u32 0,1,4)),
 (272,(.int .u64 0,1,8)),
 (276,(.pointer none,1,8)),
 (278,(.pointer none,1,8)),
 (290,(.pointer none,1,8)),
 (39,(.nilFunc,1,8)),
 (91,(.nilFunc,1,8)),
 (100,(.nilFunc,1,8)),
 (114,(.nilFunc,1,8)),
 (132,(.nilFunc,1,8)),
 (134,(.nilFunc,1,8)),
 (151,(.nilFunc,1,8)),
 (181,(.nilIface,1,16)),
 (191,(.nilFunc,1,8)),
 (224,(.nilFunc,1,8)),
 (269,(.nilIface,1,16)),
 (1,(.nilFunc,1,8)),
 (20,(.nilIface,1,16)),
 (23,(.nilFunc,1,8)),
 (24,(.nilFunc,1,8)),
 (25,(.nilFunc,1,8)),
 (29,(.nilFunc,1,8)),
 (37,(.nilFunc,1,8)),
 (38,(.nilFunc,1,8)),
 (40,(.nilFunc,1,8)),
 (43,(.nilFunc,1,8)),
 (46,(.nilFunc,1,8)),
 (47,(.nilFunc,1,8)),
 (48,(.nilFunc,1,8)),
 (49,(.nilFunc,1,8)),
 (50,(.nilFunc,1,8)),
 (52,(.nilFunc,1,8)),
 (53,(.nilFunc,1,8)),
 (55,(.nilFunc,1,8)),
 (58,(.nilFunc,1,8)),
 (59,(.nilFunc,1,8)),
 (60,(.nilFunc,1,8)),
 (61,(.nilFunc,1,8)),
 (62,(.nilFunc,1,8)),
 (64,(.nilFunc,1,8)),
 (65,(.nilFunc,1,8)),
 (66,(.nilFunc,1,8)),
 (67,(.nilFunc,1,8)),
 (68,(.nilFunc,1,8)),
 (70,(.nilFunc,1,8)),
 (71,(.nilFunc,1,8)),
 (72,(.nilFunc,1,8)),
 (74,(.nilFunc,1,8)),
 (75,(.nilFunc,1,8)),
 (76,(.nilFunc,1,8)),
 (77,(.nilFunc,1,8)),
 (78,(.nilFunc,1,8)),
 (81,(.nilFunc,1,8)),
 (82,(.nilFunc,1,8)),
 (83,(.nilFunc,1,8)),
 (84,(.nilFunc,1,8)),
 (87,(.nilFunc,1,8)),
 (93,(.nilFunc,1,8)),
 (94,(.nilFunc,1,8)),
 (95,(.nilFunc,1,8)),
 (96,(.nilFunc,1,8)),
 (97,(.nilFunc,1,8)),
 (98,(.nilFunc,1,8)),
 (99,(.nilFunc,1,8)),
 (101,(.nilFunc,1,8)),
 (102,(.nilFunc,1,8)),
 (103,(.nilFunc,1,8)),
 (104,(.nilFunc,1,8)),
 (105,(.nilFunc,1,8)),
 (106,(.nilFunc,1,8)),
 (107,(.nilFunc,1,8)),
 (109,(.nilFunc,1,8)),
 (112,(.nilFunc,1,8)),
 (113,(.nilFunc,1,8)),
 (118,(.nilFunc,1,8)),
 (119,(.nilFunc,1,8)),
 (120,(.nilFunc,1,8)),
 (122,(.nilFunc,1,8)),
 (123,(.nilFunc,1,8)),
 (126,(.nilFunc,1,8)),
 (127,(.nilFunc,1,8)),
 (128,(.nilFunc,1,8)),
 (129,(.nilFunc,1,8)),
 (130,(.nilFunc,1,8)),
 (131,(.nilFunc,1,8)),
 (133,(.nilFunc,1,8)),
 (135,(.nilFunc,1,8)),
 (137,(.nilFunc,1,8)),
 (138,(.nilFunc,1,8)),
 (139,(.nilFunc,1,8)),
 (140,(.nilFunc,1,8)),
 (141,(.nilFunc,1,8)),
 (142,(.nilFunc,1,8)),
 (143,(.nilFunc,1,8)),
 (144,(.nilFunc,1,8)),
 (146,(.nilFunc,1,8)),
 (147,(.nilFunc,1,8)),
 (148,(.nilFunc,1,8)),
 (149,(.nilFunc,1,8)),
 (150,(.nilFunc,1,8)),
 (152,(.nilFunc,1,8)),
 (153,(.nilFunc,1,8)),
 (154,(.nilFunc,1,8)),
 (155,(.nilFunc,1,8)),
 (156,(.nilFunc,1,8)),
 (157,(.nilFunc,1,8)),
 (158,(.nilFunc,1,8)),
 (159,(.nilFunc,1,8)),
 (163,(.nilFunc,1,8)),
 (165,(.nilFunc,1,8)),
 (166,(.nilFunc,1,8)),
 (167,(.nilFunc,1,8)),
 (168,(.nilFunc,1,8)),
 (169,(.nilFunc,1,8)),
 (171,(.nilFunc,1,8)),
 (172,(.nilFunc,1,8)),
 (173,(.nilFunc,1,8)),
 (174,(.nilFunc,1,8)),
 (175,(.nilFunc,1,8)),
 (176,(.nilFunc,1,8)),
 (180,(.nilIface,1,16)),
 (184,(.nilFunc,1,8)),
 (185,(.nilFunc,1,8)),
 (186,(.nilFunc,1,8)),
 (187,(.nilFunc,1,8)),
 (188,(.nilFunc,1,8)),
 (189,(.nilFunc,1,8)),
 (190,(.nilFunc,1,8)),
 (192,(.nilFunc,1,8)),
 (194,(.nilFunc,1,8)),
 (195,(.nilFunc,1,8)),
 (196,(.nilFunc,1,8)),
 (197,(.nilFunc,1,8)),
 (198,(.nilFunc,1,8)),
 (199,(.nilFunc,1,8)),
 (201,(.nilFunc,1,8)),
 (202,(.nilFunc,1,8)),
 (203,(.nilFunc,1,8)),
 (204,(.nilFunc,1,8)),
 (205,(.nilFunc,1,8)),
 (206,(.nilFunc,1,8)),
 (210,(.nilFunc,1,8)),
 (212,(.nilFunc,1,8)),
 (213,(.nilFunc,1,8)),
 (214,(.nilFunc,1,8)),
 (215,(.nilFunc,1,8)),
 (216,(.nilFunc,1,8)),
 (217,(.nilFunc,1,8)),
 (218,(.nilFunc,1,8)),
 (219,(.nilFunc,1,8)),
 (221,(.nilFunc,1,8)),
 (222,(.nilFunc,1,8)),
 (225,(.nilFunc,1,8)),
 (226,(.nilFunc,1,8)),
 (227,(.nilFunc,1,8)),
 (229,(.nilFunc,1,8)),
 (231,(.nilFunc,1,8)),
 (232,(.nilFunc,1,8)),
 (233,(.nilFunc,1,8)),
 (234,(.nilFunc,1,8)),
 (237,(.nilFunc,1,8)),
 (238,(.nilFunc,1,8)),
 (239,(.nilFunc,1,8)),
 (240,(.nilFunc,1,8)),
 (242,(.nilFunc,1,8)),
 (245,(.nilFunc,1,8)),
 (246,(.nilFunc,1,8)),
 (247,(.nilFunc,1,8)),
 (248,(.nilFunc,1,8)),
 (249,(.nilFunc,1,8)),
 (250,(.nilFunc,1,8)),
 (251,(.nilFunc,1,8)),
 (252,(.nilFunc,1,8)),
 (253,(.nilFunc,1,8)),
 (254,(.nilFunc,1,8)),
 (255,(.nilFunc,1,8)),
 (256,(.nilFunc,1,8)),
 (257,(.nilFunc,1,8)),
 (258,(.nilFunc,1,8)),
 (259,(.nilFunc,1,8)),
 (260,(.nilFunc,1,8)),
 (263,(.nilFunc,1,8)),
 (264,(.nilFunc,1,8)),
 (265,(.nilFunc,1,8)),
 (266,(.nilFunc,1,8)),
 (268,(.nilIface,1,16)),
 (270,(.nilFunc,1,8)),
 (271,(.nilFunc,1,8)),
 (273,(.nilFunc,1,8)),
 (274,(.nilFunc,1,8)),
 (275,(.nilFunc,1,8)),
 (277,(.nilFunc,1,8)),
 (280,(.nilFunc,1,8)),
 (281,(.nilFunc,1,8)),
 (289,(.nilFunc,1,8))]
theorem tyUnd_ok:tyUnd.map (fun p=>Tryz.prog.underlying p.1) = tyUnd.map (fun p=>some p.2):=by kernel_rfl
theorem tyInf_ok:tyInf.map (fun p=>(Tryz.prog.info? p.1).map (fun i=>(i.zero,i.size,i.bytes))) = tyInf.map (fun p=>some (some p.2.1,p.2.2.1,p.2.2.2)):=by kernel_rfl
theorem follows_mixed:Tryz.prog.follows .mixedOrders = true:=by kernel_rfl
theorem of_map_eq {α β:Type} {f g:α→β}:∀ {l:List α},l.map f = l.map g→∀ p ∈ l,f p = g p
 | [],_,_,hp=>by cases hp
 | a :: r,h,p,hp=>by
  simp only [List.map_cons,List.cons.injEq] at h
  rcases List.mem_cons.1 hp with rfl | hp
  ·exact h.1
  ·exact of_map_eq h.2 p hp
def env:Env Tryz.prog where
 und:=tyUnd
 und_ok:=of_map_eq tyUnd_ok
 inf:=tyInf
 inf_ok:=of_map_eq tyInf_ok
 mixed:=follows_mixed
open Go Go.Proofs Go.RowKit
attribute [local irreducible] Fit pt own ro vw mpc lpt vels rels mow lrc dfr
section
variable {P:Program} {E:Env P} {n:Sh} {X:Cx} {s:List K} {fr:Fr} {A:List Ch} {ops:Array Oper} {rest:List Oper} {d:Nat} {ty:TypeId} {pos:String} {after:Array Edge} {a b:Code}
theorem gca {f:FuncId} {args:Array Operand} {ats:Array TypeId} (h:TO E n X s ops (⟨some d,.call ⟨.value (.func f),args,ats⟩,ty,pos,after,none⟩ :: rest) fr A):TO E n X s ops (⟨some d,.call ⟨.value (.func f),args,ats⟩,ty,pos,after,none⟩ :: rest) fr A:=h
end
def pick (x n:Int):Int:=if n ≤ 0 then 0 else x % n
end Go.Art
namespace Go.Art
def nv:List Nat→Nat
 | []=>0
 | x :: r=>x + 18446744073709551616 * nv r
def dg (n:Nat):List Nat:=if h:n = 0 then [] else n % 18446744073709551616 :: dg (n / 18446744073709551616)
termination_by n
decreasing_by omega
def Dg (l:List Nat):Prop:=∀ x ∈ l,x < 18446744073709551616
theorem dg_zero:dg 0 = []:=by rw [dg];rfl
theorem dg_pos {n:Nat} (h:n ≠ 0):dg n = n % 18446744073709551616 :: dg (n / 18446744073709551616):=by rw [dg];simp [h]
theorem nv_dg (n:Nat):nv (dg n) = n:=by
 induction n using Nat.strongRecOn with
 | _ n ih=>
  by_cases h:n = 0
  ·subst h;rw [dg_zero];rfl
  ·rw [dg_pos h,nv,ih _ (by omega)];omega
theorem Dg_dg (n:Nat):Dg (dg n):=by
 induction n using Nat.strongRecOn with
 | _ n ih=>
  by_cases h:n = 0
  ·subst h;rw [dg_zero];exact fun x hx=>nomatch hx
  ·rw [dg_pos h];intro x hx
   rcases List.mem_cons.1 hx with rfl | hx
   ·exact Nat.mod_lt _ (by decide)
   ·exact ih _ (by omega) x hx
theorem Dg.nil:Dg []:=fun _ h=>nomatch h
theorem Dg.cons {x:Nat} {l:List Nat} (h:x < 18446744073709551616) (k:Dg l):Dg (x :: l):=fun y hy=>by rcases List.mem_cons.1 hy with rfl | hy;exact h;exact k y hy
theorem Dg.tail {x:Nat} {l:List Nat} (h:Dg (x :: l)):Dg l:=fun y hy=>h y (List.mem_cons_of_mem _ hy)
theorem Dg.head {x:Nat} {l:List Nat} (h:Dg (x :: l)):x < 18446744073709551616:=h x List.mem_cons_self
theorem Dg.app {a b:List Nat} (h:Dg a) (k:Dg b):Dg (a ++ b):=fun x hx=>by rcases List.mem_append.1 hx with h1 | h1;exact h x h1;exact k x h1
theorem Dg.one {x:Nat} (h:x < 18446744073709551616):Dg [x]:=Dg.cons h Dg.nil
theorem Dg.take {l:List Nat} (h:Dg l) (i:Nat):Dg (l.take i):=fun x hx=>h x (List.mem_of_mem_take hx)
theorem Dg.drop {l:List Nat} (h:Dg l) (i:Nat):Dg (l.drop i):=fun x hx=>h x (List.mem_of_mem_drop hx)
theorem Dg.sub {l:List Nat} (h:Dg l) (i j:Nat):Dg ((l.take j).drop i):=(h.take j).drop i
theorem Dg.set {l:List Nat} (h:Dg l) {i x:Nat} (hx:x < 18446744073709551616):Dg (l.set i x):=fun y hy=>by
 rcases List.mem_or_eq_of_mem_set hy with h1 | rfl
 ·exact h y h1
 ·exact hx
theorem Dg.rep (n:Nat):Dg (List.replicate n 0):=fun x hx=>by rw [List.eq_of_mem_replicate hx];decide
theorem Dg.getD {l:List Nat} (h:Dg l) (i:Nat):l.getD i 0 < 18446744073709551616:=by
 rw [List.getD_eq_getElem?_getD]
 cases hx:l[i]? with
 | none=>simp
 | some x=>exact h x (List.mem_of_getElem? hx)
theorem nv_app (a b:List Nat):nv (a ++ b) = nv a + 18446744073709551616 ^ a.length * nv b:=by
 induction a with
 | nil=>simp [nv]
 | cons x r ih=>rw [List.cons_append,nv,nv,ih,List.length_cons,Nat.pow_succ,Nat.mul_add,Nat.mul_assoc,Nat.mul_left_comm,Nat.add_assoc]
theorem nv_snoc (a:List Nat) (x:Nat):nv (a ++ [x]) = nv a + 18446744073709551616 ^ a.length * x:=by rw [nv_app];simp [nv]
theorem nv_lt {l:List Nat} (h:Dg l):nv l < 18446744073709551616 ^ l.length:=by
 induction l with
 | nil=>simp [nv]
 | cons x r ih=>
  have h1:=ih h.tail
  have h2:=h.head
  rw [nv,List.length_cons,Nat.pow_succ]
  omega
theorem nv_rep (n:Nat):nv (List.replicate n 0) = 0:=by
 induction n with
 | zero=>rfl
 | succ n ih=>rw [List.replicate_succ,nv,ih]
theorem nv_split (l:List Nat) (i:Nat):nv l = nv (l.take i) + 18446744073709551616 ^ (min i l.length) * nv (l.drop i):=by
 conv=>lhs;rw [← List.take_append_drop i l]
 rw [nv_app,List.length_take]
theorem nv_step (l:List Nat) (i:Nat):nv (l.drop i) = l.getD i 0 + 18446744073709551616 * nv (l.drop (i + 1)):=by
 by_cases h:i < l.length
 ·rw [List.drop_eq_getElem_cons h,nv,List.getD_eq_getElem?_getD,List.getElem?_eq_getElem h];rfl
 ·rw [List.drop_eq_nil_of_le (by omega),List.drop_eq_nil_of_le (by omega)]
  simp [nv,List.getD_eq_getElem?_getD,h]
theorem nv_take_succ (l:List Nat) (i:Nat) (h:i < l.length):nv (l.take (i + 1)) = nv (l.take i) + 18446744073709551616 ^ i * l.getD i 0:=by
 rw [List.take_succ_eq_append_getElem h,nv_snoc,List.length_take,Nat.min_eq_left (by omega),List.getD_eq_getElem?_getD,List.getElem?_eq_getElem h];rfl
def Tm (l:List Nat):Prop:=∀ a x,l = a ++ [x]→x ≠ 0
theorem Tm.nil:Tm []:=fun a x h=>by simp at h
theorem nv_zero {l:List Nat} (h:nv l = 0):∀ x ∈ l,x = 0:=by
 induction l with
 | nil=>exact fun _ h=>nomatch h
 | cons y r ih=>
  rw [nv] at h
  intro x hx
  rcases List.mem_cons.1 hx with rfl | hx
  ·omega
  ·exact ih (by omega) x hx
theorem Tm.tail {x:Nat} {l:List Nat} (h:Tm (x :: l)):Tm l:=fun a y e=>h (x :: a) y (by rw [e];rfl)
theorem Tm.pos {x:Nat} {l:List Nat} (h:Tm (x :: l)):nv (x :: l) ≠ 0:=by
 intro h0
 obtain ⟨a,y,e⟩ : ∃ a y,x :: l = a ++ [y]:=⟨(x :: l).dropLast,(x :: l).getLast (by simp),(List.dropLast_concat_getLast (by simp)).symm⟩
 exact h a y e (nv_zero h0 y (by rw [e];simp))
theorem dg_nv {l:List Nat} (h:Dg l) (t:Tm l):dg (nv l) = l:=by
 induction l with
 | nil=>exact dg_zero
 | cons x r ih=>
  rw [dg_pos t.pos,nv]
  have h1:=h.head
  rw [show (x + 18446744073709551616 * nv r) % 18446744073709551616 = x by omega,show (x + 18446744073709551616 * nv r) / 18446744073709551616 = nv r by omega,ih h.tail t.tail]
theorem Tm_dg (n:Nat):Tm (dg n):=by
 induction n using Nat.strongRecOn with
 | _ n ih=>
  by_cases h:n = 0
  ·subst h;rw [dg_zero];exact Tm.nil
  ·rw [dg_pos h];intro a x e
   cases a with
   | nil=>
    simp only [List.nil_append,List.cons.injEq] at e
    have h2:n / 18446744073709551616 = 0:=by rw [← nv_dg (n / 18446744073709551616),e.2];rfl
    omega
   | cons y a=>
    simp only [List.cons_append,List.cons.injEq] at e
    exact ih _ (by omega) a x e.2
theorem dg_nil {n:Nat}:dg n = [] ↔ n = 0:=⟨fun h=>by rw [← nv_dg n,h];rfl,fun h=>by rw [h,dg_zero]⟩
theorem dg_top {l:List Nat} {i:Nat} (h:Dg l) (h0:nv (l.drop i) = 0):nv (l.take i) = nv l:=by
 have:=nv_split l i;rw [h0] at this;omega
theorem Tm_of {l:List Nat} (h:l = []∨l.getD (l.length - 1) 0 ≠ 0):Tm l:=by
 intro a x e
 rcases h with rfl | h
 ·simp at e
 ·subst e
  simpa [List.getD_eq_getElem?_getD] using h
theorem Tm.top {l:List Nat} (h:Tm l) (hl:0 < l.length):l.getD (l.length - 1) 0 ≠ 0:=by
 have e:=(List.dropLast_concat_getLast (l:=l) (by rintro rfl;simp at hl)).symm
 have:=h _ _ e
 rw [List.getLast_eq_getElem] at this
 rwa [List.getD_eq_getElem?_getD,List.getElem?_eq_getElem (by omega)]
theorem dg_len (n m:Nat):(dg n).length ≤ m ↔ n < 18446744073709551616 ^ m:=by
 constructor
 ·intro h
  have h1:=nv_lt (Dg_dg n)
  rw [nv_dg] at h1
  exact Nat.lt_of_lt_of_le h1 (Nat.pow_le_pow_right (by decide) h)
 ·induction m generalizing n with
  | zero=>intro h;simp at h;subst h;rw [dg_zero];exact Nat.le_refl _
  | succ m ih=>
   intro h
   by_cases h0:n = 0
   ·subst h0;rw [dg_zero];exact Nat.zero_le _
   ·rw [dg_pos h0,List.length_cons]
    have:=ih (n / 18446744073709551616) (by rw [Nat.pow_succ] at h;exact Nat.div_lt_of_lt_mul (by rw [Nat.mul_comm];exact h))
    omega
theorem dg_one {n:Nat} (h:n < 18446744073709551616) (h0:n ≠ 0):dg n = [n]:=by
 rw [dg_pos h0,Nat.mod_eq_of_lt h,Nat.div_eq_of_lt h,dg_zero]
theorem nv_low {l:List Nat} (h:Dg l) (i:Nat):nv (l.take i) < 18446744073709551616 ^ i:=by
 have h1:=nv_lt (h.take i)
 refine Nat.lt_of_lt_of_le h1 (Nat.pow_le_pow_right (by decide) ?_)
 rw [List.length_take];omega
theorem nv_cut (l:List Nat) (i:Nat):nv l = nv (l.take i) + 18446744073709551616 ^ i * nv (l.drop i):=by
 by_cases h:i ≤ l.length
 ·have:=nv_split l i;rwa [Nat.min_eq_left h] at this
 ·rw [List.drop_eq_nil_of_le (by omega),List.take_of_length_le (by omega)];simp [nv]
theorem nv_lt_of {a b:List Nat} (ha:Dg a) (i:Nat) (h:nv (a.drop i) < nv (b.drop i)):nv a < nv b:=by
 rw [nv_cut a i,nv_cut b i]
 have h1:=nv_low ha i
 have h2:18446744073709551616 ^ i * nv (a.drop i) + 18446744073709551616 ^ i ≤ 18446744073709551616 ^ i * nv (b.drop i):=by
  rw [← Nat.mul_succ];exact Nat.mul_le_mul_left _ h
 omega
theorem nv_set (l:List Nat) (i x:Nat) (h:i < l.length):nv (l.set i x) + 18446744073709551616 ^ i * l.getD i 0 = nv l + 18446744073709551616 ^ i * x:=by
 rw [nv_cut (l.set i x) i,nv_cut l i,nv_step (l.set i x) i,nv_step l i]
 have e1:(l.set i x).take i = l.take i:=by rw [List.take_set,List.set_eq_of_length_le (by rw [List.length_take];omega)]
 have e2:(l.set i x).drop (i + 1) = l.drop (i + 1):=by rw [List.drop_set,if_pos (by omega)]
 have e3:(l.set i x).getD i 0 = x:=by simp [List.getD_eq_getElem?_getD,h]
 rw [e1,e2,e3]
 simp only [Nat.mul_add]
 omega
structure Hf (n1 n0 u u1 q r:Nat):Prop where
 n1a:2147483648 ≤ n1
 n1b:n1 < 4294967296
 n0b:n0 < 4294967296
 u1b:u1 < 4294967296
 ub:u < n1 * 4294967296 + n0
 eq:r + q * n1 = u
 q1:(u * 4294967296 + u1) / (n1 * 4294967296 + n0) ≤ q
 q2:q ≤ 4294967297
 r2:r < 4294967296
theorem Hf.first {n1 n0 u u1:Nat} (n1a:2147483648 ≤ n1) (n1b:n1 < 4294967296) (n0b:n0 < 4294967296) (u1b:u1 < 4294967296) (ub:u < n1 * 4294967296 + n0):Hf n1 n0 u u1 (u / n1) (u % n1):=by
 have h0:0 < n1:=by omega
 refine ⟨n1a,n1b,n0b,u1b,ub,by rw [Nat.mul_comm];exact Nat.mod_add_div u n1,?_,?_,by have:=Nat.mod_lt u h0;omega⟩
 ·rw [Nat.le_div_iff_mul_le h0]
  have h1:(u * 4294967296 + u1) / (n1 * 4294967296 + n0) ≤ (u * 4294967296 + u1) / (n1 * 4294967296):=Nat.div_le_div_left (by omega) (by omega)
  have h2:(u * 4294967296 + u1) / (n1 * 4294967296) = u / n1:=by
   have h3:(u * 4294967296 + u1) / 4294967296 = u:=by omega
   have h4:=Nat.div_div_eq_div_mul (u * 4294967296 + u1) 4294967296 n1
   rw [h3] at h4
   rw [Nat.mul_comm n1];exact h4.symm
  rw [h2] at h1
  exact Nat.le_trans (Nat.mul_le_mul_right _ h1) (Nat.div_mul_le_self u n1)
 ·have:u / n1 < 4294967298:=by
   rw [Nat.div_lt_iff_lt_mul h0]
   omega
  omega
variable {n1 n0 u u1 q r:Nat}
theorem Hf.mulb (h:Hf n1 n0 u u1 q r):q * n0 < 18446744073709551616:=by
 have h1:q * n0 ≤ 4294967297 * 4294967295:=Nat.mul_le_mul h.q2 (by have:=h.n0b;omega)
 omega
theorem Hf.goal (h:Hf n1 n0 u u1 q r):q * n0 ≤ 4294967296 * r + u1 ↔ q * (n1 * 4294967296 + n0) ≤ u * 4294967296 + u1:=by
 have h1:=h.eq
 rw [Nat.mul_add,← Nat.mul_assoc]
 omega
theorem Hf.less (h:Hf n1 n0 u u1 q r) (hc:¬ (q < 4294967296∧q * n0 ≤ 4294967296 * r + u1)):1 ≤ q∧(u * 4294967296 + u1) / (n1 * 4294967296 + n0) ≤ q - 1∧q - 1 ≤ 4294967296∧(r + n1) + (q - 1) * n1 = u:=by
 have h1:=h.n1a
 have hlt:(u * 4294967296 + u1) / (n1 * 4294967296 + n0) < q:=by
  rw [Nat.div_lt_iff_lt_mul (by omega)]
  by_cases h2:q < 4294967296
  ·have h3:¬ q * (n1 * 4294967296 + n0) ≤ u * 4294967296 + u1:=fun h4=>hc ⟨h2,h.goal.2 h4⟩
   omega
  ·have h3:4294967296 * (n1 * 4294967296 + n0) ≤ q * (n1 * 4294967296 + n0):=Nat.mul_le_mul_right _ (by omega)
   have:=h.ub;have:=h.u1b
   omega
 have hq:1 ≤ q:=Nat.lt_of_le_of_lt (Nat.zero_le _) hlt
 refine ⟨hq,Nat.le_sub_one_of_lt hlt,by have:=h.q2;omega,?_⟩
 have h5:=h.eq
 obtain ⟨m,rfl⟩ : ∃ m,q = m + 1:=⟨q - 1,by omega⟩
 rw [Nat.add_mul] at h5
 simp only [Nat.add_sub_cancel]
 omega
theorem Hf.next (h:Hf n1 n0 u u1 q r) (hc:¬ (q < 4294967296∧q * n0 ≤ 4294967296 * r + u1)) (hr:r + n1 < 4294967296):Hf n1 n0 u u1 (q - 1) (r + n1):=by
 obtain ⟨h1,h2,h3,h4⟩:=h.less hc
 exact ⟨h.n1a,h.n1b,h.n0b,h.u1b,h.ub,h4,h2,by omega,hr⟩
theorem Hf.done (h:Hf n1 n0 u u1 q r) (hc:q < 4294967296∧q * n0 ≤ 4294967296 * r + u1):q = (u * 4294967296 + u1) / (n1 * 4294967296 + n0):=by
 have h1:=h.goal.1 hc.2
 have:=h.n1a
 exact Nat.le_antisymm ((Nat.le_div_iff_mul_le (by omega)).2 h1) h.q1
theorem Hf.brk (h:Hf n1 n0 u u1 q r) (hc:¬ (q < 4294967296∧q * n0 ≤ 4294967296 * r + u1)) (hr:¬ r + n1 < 4294967296):q - 1 = (u * 4294967296 + u1) / (n1 * 4294967296 + n0):=by
 obtain ⟨h1,h2,h3,h4⟩:=h.less hc
 have:=h.n1a
 refine Nat.le_antisymm ((Nat.le_div_iff_mul_le (by omega)).2 ?_) h2
 have h5:(q - 1) * n0 ≤ 4294967296 * 4294967295:=Nat.mul_le_mul h3 (by have:=h.n0b;omega)
 rw [Nat.mul_add,← Nat.mul_assoc]
 omega
theorem Hf.qlt (u1b:u1 < 4294967296) (ub:u < n1 * 4294967296 + n0):(u * 4294967296 + u1) / (n1 * 4294967296 + n0) < 4294967296:=by
 rw [Nat.div_lt_iff_lt_mul (by omega)]
 omega
theorem div_one {V a u0:Nat} (hV:0 < V):(a * 4294967296 + u0) / V = a / V * 4294967296 + (a % V * 4294967296 + u0) / V∧(a * 4294967296 + u0) % V = (a % V * 4294967296 + u0) % V:=by
 have e:a * 4294967296 + u0 = V * (a / V * 4294967296) + (a % V * 4294967296 + u0):=by
  have h1:=Nat.div_add_mod a V
  rw [← Nat.mul_assoc,← Nat.add_assoc,← Nat.add_mul,h1]
 rw [e]
 exact ⟨Nat.mul_add_div hV _ _,Nat.mul_add_mod _ _ _⟩
theorem div_up {a y p:Nat} (hp:0 < p):a * p / (y * p) = a / y∧a * p % (y * p) = a % y * p:=⟨Nat.mul_div_mul_right _ _ hp,Nat.mul_mod_mul_right _ _ _⟩
end Go.Art
namespace Go.Art
open Go Go.RowKit
def elgP (g:Int→Value) (hs:List Value) (ls:List (List Int)) (w:World):Prop:=hs.length = ls.length∧∀ i,i < ls.length→Sl w (hs.getD i nS) ((ls.getD i []).map g)
def elgF (g:Int→Value) (hs:List Value) (ls:List (List Int)) (x:Nat):Prop:=∃ i,i < ls.length∧(ls.getD i []).map g ≠ []∧(hs.getD i nS).ownBlock = some x
theorem elgP.keep {g:Int→Value} {w w':World} {hs:List Value} {ls:List (List Int)} (h:elgP g hs ls w) (hb:∀ b,elgF g hs ls b→w'.heap[b]? = w.heap[b]?):elgP g hs ls w':=⟨h.1,fun i hi=>(h.2 i hi).of_block fun b hx=>hb b ⟨i,hi,hx⟩⟩
theorem elgP.lt {g:Int→Value} {w:World} {hs:List Value} {ls:List (List Int)} (h:elgP g hs ls w) {b:Nat} (hb:elgF g hs ls b):b < w.heap.size:=by obtain ⟨i,hi,hx⟩:=hb;exact (h.2 i hi).blt hx
def velg (g:Int→Value) (hs:List Value) (ls:List (List Int)):Ch where
 wr:=fun _=>False
 rd:=fun _=>False
 bd:=elgF g hs ls
 P:=elgP g hs ls
 loc:=fun h hb=>h.keep fun b h=>hb b (.inr (.inr h))
 lt:=fun h hb=>by rcases hb with hb | hb | hb;exact hb.elim;exact hb.elim;exact h.lt hb
def relg (g:Int→Value) (hs:List Value) (ls:List (List Int)):Ch where
 wr:=fun _=>False
 rd:=elgF g hs ls
 bd:=fun _=>False
 P:=elgP g hs ls
 loc:=fun h hb=>h.keep fun b h=>hb b (.inr (.inl h))
 lt:=fun h hb=>by rcases hb with hb | hb | hb;exact hb.elim;exact h.lt hb;exact hb.elim
instance (g:Int→Value) (hs:List Value) (ls:List (List Int)):Lent (velg g hs ls):=⟨fun _=>⟨fun h=>h,fun h=>h⟩⟩
instance (g:Int→Value) (hs:List Value) (ls:List (List Int)):NoB (relg g hs ls):=⟨fun _ h=>h⟩
theorem has_velg {g:Int→Value} {F:List Ch} {hs:List Value} {ls:List (List Int)} (h:velg g hs ls ∈ F):Has F (velg g hs ls):=⟨fun _ hw=>hw.h _ h,fun _ h=>h,fun _ h=>h,fun _ hb=>⟨_,h,hb⟩⟩
theorem has_elg {g:Int→Value} {F:List Ch} {hs:List Value} {ls:List (List Int)} {i:Nat} (h:Has F (velg g hs ls)) (hi:i < ls.length):Has F (vw (hs.getD i nS) ((ls.getD i []).map g)):=
 ⟨fun w hw=>(h.P w hw).2 i hi,fun _ h=>h,fun _ h=>h,fun b hb=>h.ft b (by rcases hb with hb | hb | hb;exact hb.elim;exact hb.elim;exact .inr (.inr ⟨i,hi,hb⟩))⟩
theorem elg_len {g:Int→Value} {A:List Ch} {hs:List Value} {ls:List (List Int)} (h:Has A (velg g hs ls)) (w:World) (hw:Sat A w):hs.length = ls.length:=(h.P w hw).1
section
variable {P:Program} {E:Env P} {n:Sh} {X:Cx} {s:List K} {fr:Fr} {A:List Ch} {c0:Code} {g:Int→Value}
theorem TC.elg {g:Int→Value} {hs:List Value} {ls:List (List Int)} (k:hs.length = ls.length→TC E n X s c0 fr A) (hh:Has A (velg g hs ls):=by first | exact has_velg memA | exact has_relg memA):TC E n X s c0 fr A:=TC.fact (fun w hw=>elg_len hh w hw) k
end
end Go.Art
namespace Go.Art
open Go Go.Proofs Go.RowKit
attribute [local irreducible] Fit pt own ro vw mpc lpt vels rels mow lrc dfr
theorem one_nil:∀ c ∈ ([]:List Value),c.oneCell' = true:=fun _ h=>nomatch h
theorem one_cons {c:Value} {l:List Value} (h:c.oneCell' = true) (k:∀ c ∈ l,c.oneCell' = true):∀ x ∈ c :: l,x.oneCell' = true:=fun x hx=>by
 rcases List.mem_cons.1 hx with rfl | hx
 ·exact h
 ·exact k x hx
section
variable {P:Program} {E:Env P} {n:Sh} {X:Cx} {s:List K} {fr:Fr} {A A':List Ch} {ops:Array Oper} {rest:List Oper} {d:Nat} {ty t T:TypeId} {pos:String} {after:Array Edge} {z:Value} {x y:Operand} {b j sz by_:Nat} {cs vs cs':List Value}
theorem srz (k:TO E n X s ops rest fr (pt b cs' T :: A')) (ha:ev fr x = some (.pointer (some ⟨b,j,none⟩)):=by rfl) (hm:Tk (pt b cs T) A A':=by exact tkA) (hx:ev fr y = some (.agg vs.toArray):=by rfl) (hi:lk E.inf t = some (z,sz,by_):=by rfl) (hl:vs.length = sz:=by rfl)
  (h1:∀ v ∈ vs,v.oneCell' = true:=by (repeat (first | exact one_nil | refine one_cons (by first | rfl | assumption) ?_));first | done | fail) (hj:j + sz ≤ cs.length:=by decide) (hs:cs.take j ++ vs ++ cs.drop (j + sz) = cs':=by rfl):TO E n X s ops (⟨none,.store t x y,ty,pos,after,none⟩ :: rest) fr A:=sra k ha hm hx hi hl h1 hj hs
end
abbrev y8:Int→Value:=.int .u8
abbrev By (l:List Int):List Value:=l.map y8
end Go.Art
namespace Go.Art
open Go Go.Proofs Go.RowKit
section
variable {P:Program} {E:Env P} {n:Sh} {X:Cx} {s:List K} {fr:Fr} {A A' G D:List Ch} {ops:Array Oper} {rest:List Oper} {d:Nat} {ty t t' T:TypeId} {pos:String} {after:Array Edge} {x y:Operand} {w:World} {p q:Int}
theorem res_a1 {fn:Func} {a:Act} (ha:Holds n a fr) {t:Nat} {ty T:TypeId} {dt:TypeDesc} {z:Value} {sz by_ b:Nat} {cs vs:List Value} (hr:fn.results = #[.cell t ty]) (ht:lk E.und ty = some dt) (hg:aggB dt = true) (hi:lk E.inf ty = some (z,sz,by_)) (h1:get fr t = some (ptr b))
  (hb:w.heap[b]? = some (.cells cs.toArray T (0,0))) (hv:cs.take sz = vs) (hl:vs.length = sz):(results fn a.tmps).run P w = .ok (.agg vs.toArray) w:=by
 obtain ⟨inf,g1,_,g2,_⟩:=E.info hi
 have h3:=run_loadCells_list (P:=P) w ⟨b,0,none⟩ vs (fun m u hm=>by
  rw [Addr.add_lit]
  refine blk_cell hb ?_
  rw [← hv,List.getElem?_take] at hm
  split at hm
  ·simpa using hm
  ·cases hm)
 rw [hl] at h3
 have e1:a.tmps[t]?.getD undef = ptr b:=by have:=ha.slot t _ h1;simpa using this
 simp only [results,hr]
 simp [e1,asAddr,loadVar,aggB_t (w:=w) ht hg,sizeOf,typeInfo,g1,g2,h3]
theorem rca1 {w0:World} {A0:List Ch} {R':Value→List Ch→Prop} {fn:Func} {t nn:Nat} {ty T:TypeId} {dt:TypeDesc} {z:Value} {sz by_ b:Nat} {cs vs:List Value} (h:R' (.agg vs.toArray) D) (hr:fn.results = #[.cell t ty]:=by rfl) (ht:lk E.und ty = some dt:=by rfl) (hg:aggB dt = true:=by rfl) (hi:lk E.inf ty = some (z,sz,by_):=by rfl)
  (hv:get fr t = some (ptr b):=by rfl) (hm:pt b cs T ∈ A:=by exact memA) (hcs:cs.take sz = vs:=by rfl) (hl:vs.length = sz:=by rfl) (hf:Fit A D G:=by exact fitA) (nb:∀ c ∈ D,∀ b,¬ c.bd b:=by (repeat (first | exact nb0 | refine nb1 ?_));first | done | fail) :
  TX E ⟨nn,[],none⟩ ⟨bodyPost P fn (RetP (PR w0 A0 R')),w0,A0⟩ [] .ret fr A:=⟨fun w hw=>⟨fun a ha=>
 bodyPost_ret (res_a1 (E:=E) ha hr ht hg hi hv (hw.mem hm) hcs hl) (ha.defers.trans rfl) ⟨_,rfl,PR.mk h hw hf nb⟩⟩⟩
def clipV (v:Value) (n:Nat):Value:=match v with
 | .slice o _ _=>.slice o n n
 | v=>v
theorem R_clip {el:TypeId} {z v:Value} {by_:Nat} {xs:List Value} {y1 y2:Operand} {k1 k2:IntKind} (ht:lk E.und t = some (.slice el)) (he:lk E.inf el = some (z,1,by_)) (hx:ev fr x = some v) (h1:ev fr y1 = some (.int k1 (xs.length:Int))) (h2:ev fr y2 = some (.int k2 (xs.length:Int))) (hs:Sl w v xs) :
  OpV P n fr (.slice t x none (some y1) (some y2)) ty w (clipV v xs.length) w:=⟨fun a ha _ _ _ _=>by
 obtain ⟨inf,hi,_,hsz,_⟩:=E.info he
 obtain ⟨o,c,rfl,g1,g2,g3⟩:=hs
 have b1:∀ (k:IntKind) (m:Nat) (cd:BoundsCode),xs.length ≤ m→(Instr.sliceBound (.int k (xs.length:Int)) m cd).run P w = .ok xs.length w:=fun k m cd hm=>by
  have:(0:Int) ≤ (xs.length:Int)∧(xs.length:Int) ≤ (m:Int):=by omega
  simp [Instr.sliceBound,asIntOf,this]
 simp only [execOp,ha.ev hx]
 simp only [Option.map,ha.ev h1,ha.ev h2]
 cases o with
 | none=>simp [Instr.sliceAt,Instr.slice,run_underlying (P:=P) (E.un ht) w,Instr.sliceBounds,sizeOf,typeInfo,hi,hsz,b1 _ _ _ g1,b1 _ _ _ (Nat.le_refl _),clipV]
 | some ad=>
  have e:ad.add 0 = ad:=by unfold Addr.add;simp
  simp [Instr.sliceAt,Instr.slice,run_underlying (P:=P) (E.un ht) w,Instr.sliceBounds,sizeOf,typeInfo,hi,hsz,b1 _ _ _ g1,b1 _ _ _ (Nat.le_refl _),clipV,e]⟩
theorem im_clip (e:TypeId) (v:Value) (xs:List Value):Im1 (own e v xs) (own e (clipV v xs.length) xs):=by
 have hb:(clipV v xs.length).ownBlock = v.ownBlock:=by cases v <;> first | rfl | (rename_i a _ _;cases a <;> rfl)
 refine ⟨fun w h=>?_,fun b h=>?_,fun _ h=>h.elim,fun b h=>?_⟩
 ·rcases h with ⟨rfl,rfl⟩ | ⟨b,o,cap,cur,rfl,h1,h2,h3,h4,h5⟩
  ·exact .inl ⟨rfl,rfl⟩
  ·exact .inr ⟨b,o,xs.length,cur,rfl,h1,Nat.le_refl _,by omega,by omega,h5⟩
 ·show v.ownBlock = some b;rw [← hb];exact h
 ·rcases h with h | h | h
  ·exact .inl (by show v.ownBlock = some b;rw [← hb];exact h)
  ·exact h.elim
  ·exact h.elim
theorem clpo {el e:TypeId} {z v:Value} {by_:Nat} {xs:List Value} {y1 y2:Operand} {k1 k2:IntKind} (k:TO E n X s ops rest ((d,clipV v xs.length) :: fr) (own e (clipV v xs.length) xs :: A')) (hx:ev fr x = some v:=by rfl) (hm:Tk (own e v xs) A A':=by exact tkA) (h1:ev fr y1 = some (.int k1 (xs.length:Int)):=by rfl) (h2:ev fr y2 = some (.int k2 (xs.length:Int)):=by rfl)
  (ht:lk E.und t = some (.slice el):=by rfl) (he:lk E.inf el = some (z,1,by_):=by rfl) (hd:Nat.blt d n.n = true:=by rfl):TO E n X s ops (⟨some d,.slice t x none (some y1) (some y2),ty,pos,after,none⟩ :: rest) fr A:=by
 refine TO.im hm (TO.val (v:=clipV v xs.length) (fun w hw=>?_) (TO.im (Im1.im (im_clip e v xs) A') k) hd)
 have h3:OwnO w e v xs:=hw.h (own e v xs) (List.Mem.head _)
 exact R_clip ht he hx h1 h2 h3.sl
end
def slCl (v:Value) (lo hi:Nat):Value:=clipV (slSub v lo hi) (hi - lo)
section
variable {P:Program} {E:Env P} {n:Sh} {X:Cx} {s:List K} {fr:Fr} {A A':List Ch} {ops:Array Oper} {rest:List Oper} {d:Nat} {ty t t':TypeId} {pos:String} {after:Array Edge} {x y y2 y3:Operand} {v u z:Value} {by_:Nat} {xs:List Value} {w:World} {lo hi:Int} {k1 k2 k3:IntKind}
end
end Go.Art
namespace Go.Art
open Go Go.Proofs Go.RowKit
def unI:List Value→Option (List Int)
 | []=>some []
 | .int .i64 x :: r=>match unI r with
  | some a=>some (x :: a)
  | none=>none
 | _=>none
theorem unI_eq:∀ {vs:List Value} {l:List Int},unI vs = some l→vs = Is l
 | [],l,h=>by cases h;rfl
 | .int .i64 x :: r,l,h=>by
  cases ha:unI r with
  | none=>simp [unI,ha] at h
  | some a=>simp [unI,ha] at h;subst h;rw [unI_eq ha];rfl
def unB:List Value→Option (List Int)
 | []=>some []
 | .int .u8 x :: r=>match unB r with
  | some a=>some (x :: a)
  | none=>none
 | _=>none
section
variable {P:Program} {E:Env P} {n:Sh} {X:Cx} {s:List K} {fr:Fr} {A A':List Ch} {ops:Array Oper} {rest:List Oper} {d m:Nat} {ty t e:TypeId} {pos:String} {after:Array Edge} {v z:Value} {x y:Operand} {by_:Nat} {parts:List (Nat × Operand)} {vs:List Value}
theorem slz {l:List Int} (k:∀ v',v'.oneCell' = true→TO E n X s ops rest ((d,v') :: fr) (own e v' (Is l) :: A)) (hp:parts = idxP 0 (parts.map (·.2)):=by rfl) (hv:evs fr (parts.map (·.2)) = some vs:=by rfl) (hi:unI vs = some l:=by rfl)
  (hk:l.length = m:=by rfl) (hk0:Nat.blt 0 m = true:=by rfl) (hkm:Nat.ble m 16777216 = true:=by rfl) (ht:lk E.und t = some (.slice e):=by rfl) (he:lk E.inf e = some (z,1,by_):=by rfl) (hd:Nat.blt d n.n = true:=by rfl) :
  TO E n X s ops (⟨some d,.buildSlice t m parts.toArray,ty,pos,after,none⟩ :: rest) fr A:=by
 have:=unI_eq hi
 subst this
 exact sli (fun v=>TO.one (v:=v) (xs:=Is l) (fun h=>k v h) hasA) hp hv (Is_one l) (by rw [Is_len];exact hk) hk0 hkm ht he hd
end
section
variable {P:Program} {E:Env P} {n:Sh} {X:Cx} {s:List K} {fr:Fr} {A A':List Ch} {ops:Array Oper} {rest:List Oper} {d j by_:Nat} {ty t el:TypeId} {pos:String} {after:Array Edge} {v z:Value} {x y:Operand} {l:List Int} {dt:TypeDesc} {m:Int}
end
theorem Tr.law {P:Program} {f:FuncId} {args:List Value} {pre:List Ch} (h:Tr P f args pre [] fun v D=>v = .bool true∧D = []) {w:World} (hw:Sat pre w):Fn P f args w fun v w'=>v = .bool true∧Ext w w':=
 (h.fn hw).mono fun _ _ ⟨he,_,⟨hv,_⟩,_⟩=>⟨hv,he⟩
end Go.Art
namespace Go.Art
open Go Go.RowKit
section
variable {F:Fence} {m:Nat} {P:Program} {md:Region.Mode} {ops:Array Oper} {Q:Exit→Act→World→Prop} {S:World→Prop}
def YSg (P:Program) (ops:Array Oper) (S:World→Prop) (o:Oper) (v:Value) (a:Act):Prop:=
 (Region.wanted o (yielded ops a.tmps) = true∧∀ w,S w→(execOp a.eval o).run P w = .ok (.value v) w∧o.about P w a.eval = none)∨(Region.wanted o (yielded ops a.tmps) = false∧v = undef∧∀ w,S w→o.about P w a.eval = none)
end
section
variable {P:Program} {E:Env P} {n:Sh} {X:Cx} {s:List K} {fr:Fr} {A:List Ch} {ops:Array Oper} {d j dj:Nat} {o:Op} {ty:TypeId} {pos:String} {after:Array Edge} {v:Value} {fuel:Nat} {listed:Array Bool} {S:World→Prop} {b b':Bool}
end
end Go.Art
namespace Go.Art
open Go Go.Proofs Go.RowKit
section
variable {P:Program} {E:Env P} {n:Sh} {X:Cx} {s:List K} {fr:Fr} {A:List Ch} {ops:Array Oper} {fuel:Nat} {listed:Array Bool} {S:World→Prop} {a b:Code}
theorem sq_cutX {ι:Type} (p:ι→Prop) (fr':ι→Fr) (B:ι→List Ch) (hb:∀ i,p i→TC E n X s b (fr' i) (B i)) (ha:(∀ i,p i→∀ fr2 A2,Sub (fr' i) fr2→∀ {G},Fit A2 (B i) G→TC E n X s b fr2 A2)→TC E n X (.code b :: s) a fr A):TC E n X s (.seq a b) fr A:=
 sq (ha fun i hp fr2 A2 hs _ hf=>⟨fun w hw=>SC_sub (fr' i) hs ((hb i hp).run w ((hw.im hf).im (Im.drop _ _)))⟩)
theorem t3 (i j k:Nat) {oi oj ok:Oper} (h1:TO E n ⟨RQ P ops n.r (NP P n.r X.Q s) S fuel (listed.setIfInBounds i true),X.w0,X.A0⟩ [] ops [oi] fr A) (h2:TO E n ⟨RQ P ops n.r (NP P n.r X.Q s) S fuel (listed.setIfInBounds j true),X.w0,X.A0⟩ [] ops [oj] fr A)
  (h3:TO E n ⟨RQ P ops n.r (NP P n.r X.Q s) S fuel (listed.setIfInBounds k true),X.w0,X.A0⟩ [] ops [ok] fr A) (hi:ops[i]? = some oi:=by rfl) (hj:ops[j]? = some oj:=by rfl) (hk:ops[k]? = some ok:=by rfl)
  (hr:Region.ready .any ops listed = [i,j,k]:=by kernel_rfl):TS E n X s S ops (fuel + 1) listed fr A:=
 tn [i,j,k] hr (by simp) fun m hm=>by
  simp only [List.mem_cons,List.not_mem_nil,or_false] at hm
  rcases hm with rfl | rfl | rfl
  ·exact ⟨oi,hi,h1⟩
  ·exact ⟨oj,hj,h2⟩
  ·exact ⟨ok,hk,h3⟩
theorem tkw (i:Nat) (c:Int) {m:Int} {d:Nat} {o:Op} {ty:TypeId} {pos:String} {after:Array Edge} (k:TS E n X s S ops fuel (listed.setIfInBounds i true) ((d,I c) :: fr) A) (hi:ops[i]? = some ⟨some d,o,ty,pos,after,none⟩:=by rfl) (hv:evOp E fr o = some (.int .i64 (IntKind.i64.wrap m)):=by rfl) (he:m = c:=by first | rfl | assumption | omega) (hb : -9223372036854775808 ≤ c∧c ≤ 9223372036854775807:=by omega) (hs:Region.noSelect ops = true:=by kernel_rfl) (hf:Region.free .any ops listed i = true:=by kernel_rfl)
  (hr:(Region.ready .any ops listed).contains i = true:=by kernel_rfl) (hrd:n.r = none:=by rfl) (hd:Nat.blt d n.n = true:=by rfl) (hab:∀ w ρ,(⟨some d,o,ty,pos,after,none⟩ : Oper).about P w ρ = none:=by exact fun _ _=>rfl):TS E n X s S ops (fuel + 1) listed fr A:=
 tk i (fun _ _=>by subst he;exact R_wrap (R_auto hv) hb) k hi hs hf hr hrd hd hab
theorem res_at {fn:Func} {w:World} {a:Act} (ha:Holds n a fr) {t u:Nat} {ty T:TypeId} {dt:TypeDesc} {z:Value} {sz by_ b:Nat} {cs vs:List Value} {v2:Value} (hr:fn.results = #[.cell t ty,.tmp u]) (ht:lk E.und ty = some dt) (hg:aggB dt = true) (hi:lk E.inf ty = some (z,sz,by_)) (h1:get fr t = some (ptr b))
  (hb:w.heap[b]? = some (.cells cs.toArray T (0,0))) (hv:cs.take sz = vs) (hl:vs.length = sz) (h2:get fr u = some v2):(results fn a.tmps).run P w = .ok (.tuple #[.agg vs.toArray,v2]) w:=by
 obtain ⟨inf,g1,_,g2,_⟩:=E.info hi
 have h3:=run_loadCells_list (P:=P) w ⟨b,0,none⟩ vs (fun m u hm=>by
  rw [Addr.add_lit]
  refine blk_cell hb ?_
  rw [← hv,List.getElem?_take] at hm
  split at hm
  ·simpa using hm
  ·cases hm)
 rw [hl] at h3
 have e1:a.tmps[t]?.getD undef = ptr b:=by have:=ha.slot t _ h1;simpa using this
 have e2:a.tmps[u]?.getD undef = v2:=by have:=ha.slot u _ h2;simpa using this
 simp only [results,hr]
 simp [e1,e2,asAddr,loadVar,aggB_t (w:=w) ht hg,sizeOf,typeInfo,g1,g2,h3]
theorem rca {w0:World} {A0 D G:List Ch} {R':Value→List Ch→Prop} {fn:Func} {t u nn:Nat} {ty T:TypeId} {dt:TypeDesc} {z:Value} {sz by_ b:Nat} {cs vs:List Value} {v2:Value} (h:R' (.tuple #[.agg vs.toArray,v2]) D) (hr:fn.results = #[.cell t ty,.tmp u]:=by rfl) (ht:lk E.und ty = some dt:=by rfl) (hg:aggB dt = true:=by rfl) (hi:lk E.inf ty = some (z,sz,by_):=by rfl)
  (hv:get fr t = some (ptr b):=by rfl) (hv2:get fr u = some v2:=by rfl) (hm:pt b cs T ∈ A:=by exact memA) (hcs:cs.take sz = vs:=by rfl) (hl:vs.length = sz:=by rfl) (hf:Fit A D G:=by exact fitA) (nb:∀ c ∈ D,∀ b,¬ c.bd b:=by (repeat (first | exact nb0 | refine nb1 ?_));first | done | fail) :
  TX E ⟨nn,[],none⟩ ⟨bodyPost P fn (RetP (PR w0 A0 R')),w0,A0⟩ [] .ret fr A:=⟨fun w hw=>⟨fun a ha=>
 bodyPost_ret (res_at (E:=E) ha hr ht hg hi hv (hw.mem hm) hcs hl hv2) (ha.defers.trans rfl) ⟨_,rfl,PR.mk h hw hf nb⟩⟩⟩
end
section
variable {P:Program} {E:Env P} {n:Sh} {X:Cx} {s:List K} {fr:Fr} {A:List Ch} {a b:Code}
theorem cutK {ι:Type} (p:ι→Prop) (fr':ι→Fr) (B:ι→List Ch) (hb:∀ i,p i→TC E n X s b (fr' i) (B i)) (ha:(∀ i,p i→∀ fr2 A2,Sub (fr' i) fr2→∀ {G},Fit A2 (B i) G→TC E n X s b fr2 A2)→TC E n X (.code b :: s) a fr A):TC E n X (.code b :: s) a fr A:=
 ha fun i hp fr2 A2 hs _ hf=>⟨fun w hw=>SC_sub (fr' i) hs ((hb i hp).run w ((hw.im hf).im (Im.drop _ _)))⟩
theorem cutY {ι:Type} (p:ι→Prop) (fr':ι→Fr) (B:ι→List Ch) (hb:∀ i,p i→TC E n X s b (fr' i) (B i)) (ha:∀ b':Code,(∀ i,p i→∀ fr2 A2,Sub (fr' i) fr2→∀ {G},Fit A2 (B i) G→TC E n X s b' fr2 A2)→TC E n X (.code b' :: s) a fr A):TC E n X (.code b :: s) a fr A:=
 ha b fun i hp fr2 A2 hs _ hf=>⟨fun w hw=>SC_sub (fr' i) hs ((hb i hp).run w ((hw.im hf).im (Im.drop _ _)))⟩
end
end Go.Art
namespace Go.Art
open Go Go.Proofs
def renMul:Shelf.Ren:=
{
 f:=fun x=>
  match x with
  | 264=>287
  | n=>n,
 t:=fun x=>
  match x with
  | 53=>145
  | 46=>230
  | n=>n,
 g:=fun x=>
  have n:=x;
  n }
theorem laysMul:Lays.n264 Tryz.prog renMul:=
{mixed:=Eq.refl true,f264:=Eq.trans Tryz.func287 (congrArg some (Eq.refl (Body.n264 renMul))),
 t46:=Tryz.underlying230,a46:=Tryz.isAgg230,z46:=Tryz.sizeOf230,v46:=Tryz.zeroValue230,
 t53:=Tryz.underlying145,a53:=Tryz.isAgg145,z53:=Tryz.sizeOf145,v53:=Tryz.zeroValue145 }
open Go Go.Proofs
def renLen:Shelf.Ren:=
{
 f:=fun x=>
  match x with
  | 129=>186
  | n=>n,
 t:=fun x=>
  match x with
  | 53=>145
  | 3=>3
  | 4=>4
  | 46=>230
  | 5=>5
  | 9=>9
  | n=>n,
 g:=fun x=>
  have n:=x;
  n }
theorem laysLen:Lays.n129 Tryz.prog renLen:=
{mixed:=Eq.refl true,f129:=Eq.trans Tryz.func186 (congrArg some (Eq.refl (Body.n129 renLen))),
 t3:=Tryz.underlying3,a3:=Tryz.isAgg3,z3:=Tryz.sizeOf3,v3:=Tryz.zeroValue3,t4:=Tryz.underlying4,
 a4:=Tryz.isAgg4,z4:=Tryz.sizeOf4,v4:=Tryz.zeroValue4,t5:=Tryz.underlying5,a5:=Tryz.isAgg5,
 z5:=Tryz.sizeOf5,v5:=Tryz.zeroValue5,t9:=Tryz.underlying9,a9:=Tryz.isAgg9,z9:=Tryz.sizeOf9,
 v9:=Tryz.zeroValue9,t46:=Tryz.underlying230,a46:=Tryz.isAgg230,z46:=Tryz.sizeOf230,
 v46:=Tryz.zeroValue230,t53:=Tryz.underlying145,a53:=Tryz.isAgg145,z53:=Tryz.sizeOf145,
 v53:=Tryz.zeroValue145 }
open Go Go.Proofs
def renLz:Shelf.Ren:=
{
 f:=fun x=>
  match x with
  | 134=>252
  | 129=>186
  | n=>n,
 t:=fun x=>
  match x with
  | 53=>145
  | 3=>3
  | 4=>4
  | 46=>230
  | 5=>5
  | 9=>9
  | n=>n,
 g:=fun x=>
  have n:=x;
  n }
theorem laysLz:Lays.n134 Tryz.prog renLz:=
{mixed:=Eq.refl true,f129:=Eq.trans Tryz.func186 (congrArg some (Eq.refl (Body.n129 renLz))),
 f134:=Eq.trans Tryz.func252 (congrArg some (Eq.refl (Body.n134 renLz))),t3:=Tryz.underlying3,
 a3:=Tryz.isAgg3,z3:=Tryz.sizeOf3,v3:=Tryz.zeroValue3,t4:=Tryz.underlying4,a4:=Tryz.isAgg4,
 z4:=Tryz.sizeOf4,v4:=Tryz.zeroValue4,t5:=Tryz.underlying5,a5:=Tryz.isAgg5,z5:=Tryz.sizeOf5,
 v5:=Tryz.zeroValue5,t9:=Tryz.underlying9,a9:=Tryz.isAgg9,z9:=Tryz.sizeOf9,v9:=Tryz.zeroValue9,
 t46:=Tryz.underlying230,a46:=Tryz.isAgg230,z46:=Tryz.sizeOf230,v46:=Tryz.zeroValue230,
 t53:=Tryz.underlying145,a53:=Tryz.isAgg145,z53:=Tryz.sizeOf145,v53:=Tryz.zeroValue145 }
open Go Go.Proofs Go.RowKit
abbrev Un (n:Nat):Value:=.int .u64 (n:Int)
abbrev Us (l:List Nat):List Value:=l.map Un
theorem Us_len (l:List Nat):(Us l).length = l.length:=List.length_map ..
theorem Us_get (l:List Nat) (i:Nat) (h:i < l.length):(Us l)[i]? = some (Un (l.getD i 0)):=by simp [List.getD_eq_getElem?_getD,h]
theorem Us_set (l:List Nat) (i:Nat) (c:Nat):Us (l.set i c) = (Us l).set i (Un c):=by simp [List.map_set]
theorem Us_one (l:List Nat):∀ c ∈ Us l,c.oneCell' = true:=fun c hc=>by obtain ⟨x,_,rfl⟩:=List.mem_map.1 hc;rfl
theorem Us_app (l m:List Nat):Us (l ++ m) = Us l ++ Us m:=List.map_append ..
theorem Us_rep (n:Nat) (x:Nat):List.replicate n (Un x) = Us (List.replicate n x):=by simp
theorem Us_sub (l:List Nat) (lo hi:Nat):((Us l).take hi).drop lo = Us ((l.take hi).drop lo):=by simp [List.map_take,List.map_drop]
theorem Us_take (l:List Nat) (i:Nat):(Us l).take i = Us (l.take i):=by simp [List.map_take]
theorem Us_drop (l:List Nat) (i:Nat):(Us l).drop i = Us (l.drop i):=by simp [List.map_drop]
section
variable {P:Program} {E:Env P} {n:Sh} {X:Cx} {s:List K} {fr:Fr} {A A':List Ch} {ops:Array Oper} {rest:List Oper} {d:Nat} {ty t t':TypeId} {pos:String} {after:Array Edge} {x y:Operand} {w:World} {a b c j by_:Nat} {z v u:Value} {el:TypeId} {dt:TypeDesc} {l:List Nat} {c0:Code}
theorem ev_lit (m:Nat):ev fr (.const (.int .u64 (@OfNat.ofNat Int m instOfNat))) = some (Un (@OfNat.ofNat Nat m (instOfNatNat m))):=rfl
theorem wrapN (m:Int) (k:Nat) (h:m % 18446744073709551616 = (k:Int)):(Value.int .u64 (IntKind.u64.wrap m)) = Un k:=by rw [Go.IntKind.wrap_u64,h]
theorem R_nadd (hx:ev fr x = some (Un a)) (hy:ev fr y = some (Un b)):OpV P n fr (.binOp .add t x y t') ty w (Un ((a + b) % 18446744073709551616)) w:=R_bin hx hy (by
 show Result.ok (Value.int .u64 (IntKind.u64.wrap ((a:Int) + (b:Int)))) w = _
 rw [wrapN _ ((a + b) % 18446744073709551616) (by omega)])
theorem R_nsub (hx:ev fr x = some (Un a)) (hy:ev fr y = some (Un b)) (h:b < 18446744073709551616):OpV P n fr (.binOp .sub t x y t') ty w (Un ((a + 18446744073709551616 - b) % 18446744073709551616)) w:=R_bin hx hy (by
 show Result.ok (Value.int .u64 (IntKind.u64.wrap ((a:Int) - (b:Int)))) w = _
 rw [wrapN _ ((a + 18446744073709551616 - b) % 18446744073709551616) (by omega)])
theorem R_nmul (hx:ev fr x = some (Un a)) (hy:ev fr y = some (Un b)):OpV P n fr (.binOp .mul t x y t') ty w (Un (a * b % 18446744073709551616)) w:=R_bin hx hy (by
 show Result.ok (Value.int .u64 (IntKind.u64.wrap ((a:Int) * (b:Int)))) w = _
 rw [wrapN _ (a * b % 18446744073709551616) (by rw [← Int.natCast_mul];omega)])
theorem bv64 {k:Nat} (h:k < 18446744073709551616):(BitVec.ofInt 64 (k:Int)).toNat = k:=by
 rw [BitVec.ofInt_natCast,BitVec.toNat_ofNat];exact Nat.mod_eq_of_lt (by omega)
theorem R_nand (hx:ev fr x = some (Un a)) (hy:ev fr y = some (Un b)) (ha:a < 18446744073709551616) (hb:b < 18446744073709551616):OpV P n fr (.binOp .and t x y t') ty w (Un (a &&& b)) w:=R_bin hx hy (by
 show Result.ok (Value.int .u64 (IntKind.u64.wrap ((BitVec.ofInt 64 (a:Int) &&& BitVec.ofInt 64 (b:Int)).toNat:Int))) w = _
 have hx:a &&& b < 2 ^ 64:=Nat.and_lt_two_pow _ (by omega)
 rw [BitVec.toNat_and,bv64 ha,bv64 hb,wrapN _ (a &&& b) (by omega)])
theorem R_nor (hx:ev fr x = some (Un a)) (hy:ev fr y = some (Un b)) (ha:a < 18446744073709551616) (hb:b < 18446744073709551616):OpV P n fr (.binOp .or t x y t') ty w (Un (a ||| b)) w:=R_bin hx hy (by
 show Result.ok (Value.int .u64 (IntKind.u64.wrap ((BitVec.ofInt 64 (a:Int) ||| BitVec.ofInt 64 (b:Int)).toNat:Int))) w = _
 have hx:a ||| b < 2 ^ 64:=Nat.or_lt_two_pow (by omega) (by omega)
 rw [BitVec.toNat_or,bv64 ha,bv64 hb,wrapN _ (a ||| b) (by omega)])
theorem R_nshl {k':IntKind} {c:Int} (hx:ev fr x = some (Un a)) (hy:ev fr y = some (.int k' c)) (hc:0 ≤ c):OpV P n fr (.binOp .shl t x y t') ty w (Un (a * 2 ^ (min c.toNat 64) % 18446744073709551616)) w:=⟨fun act ha _ _ _ _=>by
 have hg:(eqGuard .shl t x y (Un a) (.int k' c)).run P w = .ok () w:=rfl
 have h1:¬ c < 0:=by omega
 simp only [execOp,ha.ev hx,ha.ev hy]
 simp only [hg,Sem.run_bind,Result.andThen_ok]
 show (Result.andThen ((binOp .shl t (Un a) (.int k' c)).run P w) _) = _
 simp only [binOp,Op.shift,h1,if_false]
 show Result.ok (Next.value (.int .u64 (IntKind.u64.wrap ((a:Int) * 2 ^ (min c.toNat 64))))) w = _
 rw [wrapN _ (a * 2 ^ (min c.toNat 64) % 18446744073709551616) (by
  have e:(a:Int) * 2 ^ (min c.toNat 64) = ((a * 2 ^ (min c.toNat 64):Nat):Int):=by rw [Int.natCast_mul,Int.natCast_pow];rfl
  rw [e];omega)]⟩
theorem R_nshr {k':IntKind} {c:Int} (hx:ev fr x = some (Un a)) (hy:ev fr y = some (.int k' c)) (hc:0 ≤ c):OpV P n fr (.binOp .shr t x y t') ty w (Un (a / 2 ^ (min c.toNat 64))) w:=⟨fun act ha _ _ _ _=>by
 have hg:(eqGuard .shr t x y (Un a) (.int k' c)).run P w = .ok () w:=rfl
 have h1:¬ c < 0:=by omega
 have h3:(a:Int).fdiv (2 ^ (min c.toNat 64)) = ((a / 2 ^ (min c.toNat 64):Nat):Int):=by
  rw [Int.fdiv_eq_ediv_of_nonneg _ (Int.le_of_lt (Int.pow_pos (by decide))),Int.natCast_ediv,Int.natCast_pow];rfl
 simp only [execOp,ha.ev hx,ha.ev hy]
 simp only [hg,Sem.run_bind,Result.andThen_ok]
 show (Result.andThen ((binOp .shr t (Un a) (.int k' c)).run P w) _) = _
 simp only [binOp,Op.shift,h1,if_false]
 show Result.ok (Next.value (.int .u64 ((a:Int).fdiv (2 ^ (min c.toNat 64))))) w = _
 rw [h3]⟩
theorem R_nquo (hx:ev fr x = some (Un a)) (hy:ev fr y = some (Un b)) (h:b ≠ 0) (ha:a < 18446744073709551616):OpV P n fr (.binOp .quo t x y t') ty w (Un (a / b)) w:=by
 have h1:=R_quo (P:=P) (n:=n) (w:=w) (t:=t) (t':=t') (ty:=ty) hx hy (by omega)
 have h2:a / b ≤ a:=Nat.div_le_self _ _
 rw [Int.tdiv_eq_ediv_of_nonneg (by omega),← Int.natCast_ediv,wrapN _ (a / b) (by generalize a / b = q at h2 ⊢;omega)] at h1
 exact h1
theorem R_nrem (hx:ev fr x = some (Un a)) (hy:ev fr y = some (Un b)) (h:b ≠ 0):OpV P n fr (.binOp .rem t x y t') ty w (Un (a % b)) w:=by
 have h1:=R_rem (P:=P) (n:=n) (w:=w) (t:=t) (t':=t') (ty:=ty) hx hy (by omega)
 rw [Int.tmod_eq_emod_of_nonneg (by omega),← Int.natCast_emod] at h1
 exact h1
/-! sums, with and without a carry out of the word -/
theorem nad (k:TO E n X s ops rest ((d,Un (a + b)) :: fr) A) (hx:ev fr x = some (Un a):=by first | with_reducible exact ev_lit _ | rfl) (hy:ev fr y = some (Un b):=by first | with_reducible exact ev_lit _ | rfl) (hb:a + b < 18446744073709551616:=by omega) (hd:Nat.blt d n.n = true:=by rfl):TO E n X s ops (⟨some d,.binOp .add t x y t',ty,pos,after,none⟩ :: rest) fr A:=
 TO.val (fun _ _=>by have:=R_nadd (P:=P) (n:=n) (w:=‹World›) (t:=t) (t':=t') (ty:=ty) hx hy;rwa [Nat.mod_eq_of_lt hb] at this) k hd
theorem nadm (k:TO E n X s ops rest ((d,Un ((a + b) % 18446744073709551616)) :: fr) A) (hx:ev fr x = some (Un a):=by first | with_reducible exact ev_lit _ | rfl) (hy:ev fr y = some (Un b):=by first | with_reducible exact ev_lit _ | rfl) (hd:Nat.blt d n.n = true:=by rfl):TO E n X s ops (⟨some d,.binOp .add t x y t',ty,pos,after,none⟩ :: rest) fr A:=TO.val (fun _ _=>R_nadd hx hy) k hd
theorem nsb (k:TO E n X s ops rest ((d,Un (a - b)) :: fr) A) (hx:ev fr x = some (Un a):=by first | with_reducible exact ev_lit _ | rfl) (hy:ev fr y = some (Un b):=by first | with_reducible exact ev_lit _ | rfl) (hb:b ≤ a∧a < 18446744073709551616:=by omega) (hd:Nat.blt d n.n = true:=by rfl):TO E n X s ops (⟨some d,.binOp .sub t x y t',ty,pos,after,none⟩ :: rest) fr A:=
 TO.val (fun _ _=>by have:=R_nsub (P:=P) (n:=n) (w:=‹World›) (t:=t) (t':=t') (ty:=ty) hx hy (by omega);rwa [show (a + 18446744073709551616 - b) % 18446744073709551616 = a - b by omega] at this) k hd
theorem nsbm (k:TO E n X s ops rest ((d,Un ((a + 18446744073709551616 - b) % 18446744073709551616)) :: fr) A) (hx:ev fr x = some (Un a):=by first | with_reducible exact ev_lit _ | rfl) (hy:ev fr y = some (Un b):=by first | with_reducible exact ev_lit _ | rfl) (hb:b < 18446744073709551616:=by omega) (hd:Nat.blt d n.n = true:=by rfl):TO E n X s ops (⟨some d,.binOp .sub t x y t',ty,pos,after,none⟩ :: rest) fr A:=TO.val (fun _ _=>R_nsub hx hy hb) k hd
theorem nml (k:TO E n X s ops rest ((d,Un (a * b)) :: fr) A) (hx:ev fr x = some (Un a):=by first | with_reducible exact ev_lit _ | rfl) (hy:ev fr y = some (Un b):=by first | with_reducible exact ev_lit _ | rfl) (hb:a * b < 18446744073709551616:=by first | assumption | omega) (hd:Nat.blt d n.n = true:=by rfl):TO E n X s ops (⟨some d,.binOp .mul t x y t',ty,pos,after,none⟩ :: rest) fr A:=
 TO.val (fun _ _=>by have:=R_nmul (P:=P) (n:=n) (w:=‹World›) (t:=t) (t':=t') (ty:=ty) hx hy;rwa [Nat.mod_eq_of_lt hb] at this) k hd
theorem nmlm (k:TO E n X s ops rest ((d,Un (a * b % 18446744073709551616)) :: fr) A) (hx:ev fr x = some (Un a):=by first | with_reducible exact ev_lit _ | rfl) (hy:ev fr y = some (Un b):=by first | with_reducible exact ev_lit _ | rfl) (hd:Nat.blt d n.n = true:=by rfl):TO E n X s ops (⟨some d,.binOp .mul t x y t',ty,pos,after,none⟩ :: rest) fr A:=TO.val (fun _ _=>R_nmul hx hy) k hd
theorem nmk (k:TO E n X s ops rest ((d,Un (a % 4294967296)) :: fr) A) (hx:ev fr x = some (Un a):=by first | with_reducible exact ev_lit _ | rfl) (hy:ev fr y = some (Un 4294967295):=by rfl) (ha:a < 18446744073709551616:=by omega) (hd:Nat.blt d n.n = true:=by rfl):TO E n X s ops (⟨some d,.binOp .and t x y t',ty,pos,after,none⟩ :: rest) fr A:=
 TO.val (fun _ _=>by have:=R_nand (P:=P) (n:=n) (w:=‹World›) (t:=t) (t':=t') (ty:=ty) hx hy ha (by decide);rwa [show a &&& 4294967295 = a % 4294967296 from Nat.and_two_pow_sub_one_eq_mod a 32] at this) k hd
theorem nor (k:TO E n X s ops rest ((d,Un (a ||| b)) :: fr) A) (hx:ev fr x = some (Un a):=by first | with_reducible exact ev_lit _ | rfl) (hy:ev fr y = some (Un b):=by first | with_reducible exact ev_lit _ | rfl) (ha:a < 18446744073709551616:=by omega) (hb:b < 18446744073709551616:=by omega) (hd:Nat.blt d n.n = true:=by rfl):TO E n X s ops (⟨some d,.binOp .or t x y t',ty,pos,after,none⟩ :: rest) fr A:=TO.val (fun _ _=>R_nor hx hy ha hb) k hd
theorem nsl {k':IntKind} {c:Int} (k:TO E n X s ops rest ((d,Un (a * 2 ^ (min c.toNat 64) % 18446744073709551616)) :: fr) A) (hx:ev fr x = some (Un a):=by first | with_reducible exact ev_lit _ | rfl) (hy:ev fr y = some (.int k' c):=by rfl) (hc:0 ≤ c:=by omega) (hd:Nat.blt d n.n = true:=by rfl):TO E n X s ops (⟨some d,.binOp .shl t x y t',ty,pos,after,none⟩ :: rest) fr A:=TO.val (fun _ _=>R_nshl hx hy hc) k hd
theorem nsr {k':IntKind} {c:Int} (k:TO E n X s ops rest ((d,Un (a / 2 ^ (min c.toNat 64))) :: fr) A) (hx:ev fr x = some (Un a):=by first | with_reducible exact ev_lit _ | rfl) (hy:ev fr y = some (.int k' c):=by rfl) (hc:0 ≤ c:=by omega) (hd:Nat.blt d n.n = true:=by rfl):TO E n X s ops (⟨some d,.binOp .shr t x y t',ty,pos,after,none⟩ :: rest) fr A:=TO.val (fun _ _=>R_nshr hx hy hc) k hd
theorem nqu (k:TO E n X s ops rest ((d,Un (a / b)) :: fr) A) (hx:ev fr x = some (Un a):=by first | with_reducible exact ev_lit _ | rfl) (hy:ev fr y = some (Un b):=by first | with_reducible exact ev_lit _ | rfl) (h:b ≠ 0:=by omega) (ha:a < 18446744073709551616:=by omega) (hd:Nat.blt d n.n = true:=by rfl):TO E n X s ops (⟨some d,.binOp .quo t x y t',ty,pos,after,none⟩ :: rest) fr A:=TO.val (fun _ _=>R_nquo hx hy h ha) k hd
theorem nrm (k:TO E n X s ops rest ((d,Un (a % b)) :: fr) A) (hx:ev fr x = some (Un a):=by first | with_reducible exact ev_lit _ | rfl) (hy:ev fr y = some (Un b):=by first | with_reducible exact ev_lit _ | rfl) (h:b ≠ 0:=by omega) (hd:Nat.blt d n.n = true:=by rfl):TO E n X s ops (⟨some d,.binOp .rem t x y t',ty,pos,after,none⟩ :: rest) fr A:=TO.val (fun _ _=>R_nrem hx hy h) k hd
theorem ntu {k0:IntKind} {m:Int} (k:TO E n X s ops rest ((d,Un m.toNat) :: fr) A) (hx:ev fr x = some (.int k0 m):=by rfl) (hs:(lk E.und t).isSome = true:=by rfl) (ht:lk E.und t' = some (.int .u64):=by rfl) (hb:0 ≤ m∧m < 18446744073709551616:=by omega) (hd:Nat.blt d n.n = true:=by rfl):TO E n X s ops (⟨some d,.convert t t' x,ty,pos,after,none⟩ :: rest) fr A:=
 TO.val (fun _ _=>by have:=R_conv (P:=P) (n:=n) (w:=‹World›) (ty:=ty) ht hs hx;rwa [wrapN m m.toNat (by omega)] at this) k hd
theorem qnqu (k:TQ E n X s ops rest ((d,Un (a / b)) :: fr) A) (hx:ev fr x = some (Un a):=by first | with_reducible exact ev_lit _ | rfl) (hy:ev fr y = some (Un b):=by first | with_reducible exact ev_lit _ | rfl) (h:b ≠ 0:=by omega) (ha:a < 18446744073709551616:=by omega) (hd:Nat.blt d n.n = true:=by rfl):TQ E n X s ops (⟨some d,.binOp .quo t x y t',ty,pos,after,none⟩ :: rest) fr A:=TQ.val (fun _ _=>R_nquo hx hy h ha) k hd
theorem qnrm (k:TQ E n X s ops rest ((d,Un (a % b)) :: fr) A) (hx:ev fr x = some (Un a):=by first | with_reducible exact ev_lit _ | rfl) (hy:ev fr y = some (Un b):=by first | with_reducible exact ev_lit _ | rfl) (h:b ≠ 0:=by omega) (hd:Nat.blt d n.n = true:=by rfl):TQ E n X s ops (⟨some d,.binOp .rem t x y t',ty,pos,after,none⟩ :: rest) fr A:=TQ.val (fun _ _=>R_nrem hx hy h) k hd
theorem qnsl {k':IntKind} {c:Int} (k:TQ E n X s ops rest ((d,Un (a * 2 ^ (min c.toNat 64) % 18446744073709551616)) :: fr) A) (hx:ev fr x = some (Un a):=by first | with_reducible exact ev_lit _ | rfl) (hy:ev fr y = some (.int k' c):=by rfl) (hc:0 ≤ c:=by omega) (hd:Nat.blt d n.n = true:=by rfl):TQ E n X s ops (⟨some d,.binOp .shl t x y t',ty,pos,after,none⟩ :: rest) fr A:=TQ.val (fun _ _=>R_nshl hx hy hc) k hd
theorem qnsr {k':IntKind} {c:Int} (k:TQ E n X s ops rest ((d,Un (a / 2 ^ (min c.toNat 64))) :: fr) A) (hx:ev fr x = some (Un a):=by first | with_reducible exact ev_lit _ | rfl) (hy:ev fr y = some (.int k' c):=by rfl) (hc:0 ≤ c:=by omega) (hd:Nat.blt d n.n = true:=by rfl):TQ E n X s ops (⟨some d,.binOp .shr t x y t',ty,pos,after,none⟩ :: rest) fr A:=TQ.val (fun _ _=>R_nshr hx hy hc) k hd
/-! digits in slices -/
theorem lu (k:TO E n X s ops rest ((d,Un (l.getD j 0)) :: fr) A) (hx:ev fr x = some (.pointer (some (addrAt v j))):=by rfl) (hh:Has A (vw v (Us l)):=by exact hasA) (hj:j < l.length:=by omega)
  (ht:lk E.und t = some dt:=by rfl) (hg:aggB dt = false:=by rfl) (hd:Nat.blt d n.n = true:=by rfl):TO E n X s ops (⟨some d,.load t x,ty,pos,after,none⟩ :: rest) fr A:=le k hx hh (Us_get l j hj) ht hg hd
theorem lue (he:l.getD j 0 = a) (k:TO E n X s ops rest ((d,Un a) :: fr) A) (hx:ev fr x = some (.pointer (some (addrAt v j))):=by rfl) (hh:Has A (vw v (Us l)):=by exact hasA) (hj:j < l.length:=by omega)
  (ht:lk E.und t = some dt:=by rfl) (hg:aggB dt = false:=by rfl) (hd:Nat.blt d n.n = true:=by rfl):TO E n X s ops (⟨some d,.load t x,ty,pos,after,none⟩ :: rest) fr A:=lu (l:=l) (by rw [he];exact k) hx hh hj ht hg hd
theorem qlu (k:TQ E n X s ops rest ((d,Un (l.getD j 0)) :: fr) A) (hx:ev fr x = some (.pointer (some (addrAt v j))):=by rfl) (hh:Has A (vw v (Us l)):=by exact hasA) (hj:j < l.length:=by omega)
  (ht:lk E.und t = some dt:=by rfl) (hg:aggB dt = false:=by rfl) (hd:Nat.blt d n.n = true:=by rfl):TQ E n X s ops (⟨some d,.load t x,ty,pos,after,none⟩ :: rest) fr A:=qle k hx hh (Us_get l j hj) ht hg hd
theorem sou (k:TO E n X s ops rest fr (own el v (Us (l.set j a)) :: A')) (hx:ev fr x = some (.pointer (some (addrAt v j))):=by rfl) (hm:Tk (own el v (Us l)) A A':=by exact tkA) (hy:ev fr y = some (Un a):=by first | with_reducible exact ev_lit _ | rfl)
  (hj:j < l.length:=by omega) (ht:lk E.inf t = some (z,1,by_):=by rfl):TO E n X s ops (⟨none,.store t x y,ty,pos,after,none⟩ :: rest) fr A:=so k hx hm hy (by rw [Us_len];exact hj) (Us_set l j a) rfl ht
theorem apu {news:List Nat} {e:TypeId} (k:∀ v',TO E n X s ops rest ((d,v') :: fr) (own e v' (Us (l ++ news)) :: A')) (hx:ev fr x = some v:=by rfl) (hy:ev fr y = some u:=by rfl) (hm:Tk (own e v (Us l)) A A':=by exact tkA) (hu:Has A' (vw u (Us news)):=by exact hasA)
  (hl:l.length + news.length ≤ 17592186044416:=by first | omega | (simp only [List.length_append,List.length_cons,List.length_nil];omega)) (ht:lk E.und t = some (.slice e):=by rfl) (he:lk E.inf e = some (z,1,by_):=by rfl) (hz:z.cells.size = 1:=by rfl) (hb:by_ ≤ 8:=by decide)
  (hd:Nat.blt d n.n = true:=by rfl):TO E n X s ops (⟨some d,.call ⟨.builtin .append,#[x,y],#[t,t]⟩,ty,pos,after,none⟩ :: rest) fr A:=
 ap (fun v'=>by have:=k v';rwa [Us_app] at this) hx hy hm hu (Us_one news) ht he hz (by rw [Us_len,Us_len];have:=Nat.mul_le_mul hl hb;omega) (by rw [Us_len,Us_len];omega) hd
theorem mku {k1:IntKind} {m:Int} {e:TypeId} (k:∀ v',TO E n X s ops rest ((d,v') :: fr) (own e v' (Us (List.replicate m.toNat 0)) :: A)) (hx:ev fr x = some (.int k1 m):=by rfl) (hy:ev fr y = some (.int k1 m):=by rfl) (ht:lk E.und t = some (.slice e):=by rfl)
  (he:lk E.inf e = some (Un 0,1,by_):=by rfl) (h0:0 ≤ m:=by omega) (hby:by_ * m.toNat ≤ 281474976710656:=by omega) (h63:m ≤ 9223372036854775807:=by omega) (hd:Nat.blt d n.n = true:=by rfl) :
  TO E n X s ops (⟨some d,.makeSlice t x y,ty,pos,after,none⟩ :: rest) fr A:=mk (fun v'=>by have:=k v';rwa [← Us_rep] at this) hx hy ht he rfl h0 hby h63 hd
theorem slu {m:Nat} {parts:List (Nat × Operand)} {e:TypeId} (l:List Nat) (k:∀ v',v'.oneCell' = true→TO E n X s ops rest ((d,v') :: fr) (own e v' (Us l) :: A)) (hp:parts = idxP 0 (parts.map (·.2)):=by rfl) (hv:evs fr (parts.map (·.2)) = some (Us l):=by rfl)
  (hk:l.length = m:=by rfl) (hk0:Nat.blt 0 m = true:=by rfl) (hkm:Nat.ble m 16777216 = true:=by rfl) (ht:lk E.und t = some (.slice e):=by rfl) (he:lk E.inf e = some (z,1,by_):=by rfl) (hd:Nat.blt d n.n = true:=by rfl) :
  TO E n X s ops (⟨some d,.buildSlice t m parts.toArray,ty,pos,after,none⟩ :: rest) fr A:=sli (fun v=>TO.one (v:=v) (xs:=Us l) (fun h=>k v h) hasA) hp hv (Us_one l) (by rw [Us_len];exact hk) hk0 hkm ht he hd
theorem TC.lenu (k:l.length ≤ 9223372036854775807→TC E n X s c0 fr A) (hh:Has A (vw v (Us l)):=by exact hasA):TC E n X s c0 fr A:=TC.fact (vw_len hh) fun h=>k (by rwa [Us_len] at h)
theorem R_cx {f:FuncId} {xs:List Operand} {ats:Array TypeId} {vs:List Value} (hf:∀ w,(callFunc f vs.toArray).run P w = .ok (.value v) w) (hv:evs fr xs = some vs):OpV P n fr (.call ⟨.value (.func f),xs.toArray,ats⟩) ty w v w:=⟨fun act ha _ _ _ _=>by
 have h1:=hf w
 have h2:(Array.map act.eval xs.toArray) = vs.toArray:=by simp [ha.evs hv]
 simp only [execOp,resolve,h2]
 show (Sem.run P ((Deferred.ofValue (.func (.func f) #[] #[]) vs.toArray).bind fun d=>invoke d.target d.args) w) = _
 simp only [Deferred.ofValue]
 simp [invoke,h1,Sem.bind,bind,pure]⟩
theorem cx {f:FuncId} {xs:List Operand} {ats:Array TypeId} {vs:List Value} (hf:∀ w,(callFunc f vs.toArray).run P w = .ok (.value v) w) (k:TO E n X s ops rest ((d,v) :: fr) A) (hv:evs fr xs = some vs:=by rfl) (hd:Nat.blt d n.n = true:=by rfl):TO E n X s ops (⟨some d,.call ⟨.value (.func f),xs.toArray,ats⟩,ty,pos,after,none⟩ :: rest) fr A:=
 TO.val (fun _ _=>R_cx hf hv) k hd
end
/-! .. with the outcome named -/
section
variable {P:Program} {E:Env P} {n:Sh} {X:Cx} {s:List K} {fr:Fr} {A:List Ch} {ops:Array Oper} {rest:List Oper} {d:Nat} {ty t t':TypeId} {pos:String} {after:Array Edge} {x y:Operand} {a b r:Nat} {k':IntKind} {c:Int} {o:Op} {v u:Value}
theorem nsbe (he:(a + 18446744073709551616 - b) % 18446744073709551616 = r) (k:TO E n X s ops rest ((d,Un r) :: fr) A) (hx:ev fr x = some (Un a):=by first | with_reducible exact ev_lit _ | rfl) (hy:ev fr y = some (Un b):=by first | with_reducible exact ev_lit _ | rfl) (hb:b < 18446744073709551616:=by omega) (hd:Nat.blt d n.n = true:=by rfl):TO E n X s ops (⟨some d,.binOp .sub t x y t',ty,pos,after,none⟩ :: rest) fr A:=nsbm (by rw [he];exact k) hx hy hb hd
theorem nmle (he:a * b % 18446744073709551616 = r) (k:TO E n X s ops rest ((d,Un r) :: fr) A) (hx:ev fr x = some (Un a):=by first | with_reducible exact ev_lit _ | rfl) (hy:ev fr y = some (Un b):=by first | with_reducible exact ev_lit _ | rfl) (hd:Nat.blt d n.n = true:=by rfl):TO E n X s ops (⟨some d,.binOp .mul t x y t',ty,pos,after,none⟩ :: rest) fr A:=nmlm (by rw [he];exact k) hx hy hd
theorem nore (he:a ||| b = r) (k:TO E n X s ops rest ((d,Un r) :: fr) A) (hx:ev fr x = some (Un a):=by first | with_reducible exact ev_lit _ | rfl) (hy:ev fr y = some (Un b):=by first | with_reducible exact ev_lit _ | rfl) (ha:a < 18446744073709551616:=by omega) (hb:b < 18446744073709551616:=by omega) (hd:Nat.blt d n.n = true:=by rfl):TO E n X s ops (⟨some d,.binOp .or t x y t',ty,pos,after,none⟩ :: rest) fr A:=nor (by rw [he];exact k) hx hy ha hb hd
theorem nsle (he:a * 2 ^ (min c.toNat 64) % 18446744073709551616 = r) (k:TO E n X s ops rest ((d,Un r) :: fr) A) (hx:ev fr x = some (Un a):=by first | with_reducible exact ev_lit _ | rfl) (hy:ev fr y = some (.int k' c):=by rfl) (hc:0 ≤ c:=by omega) (hd:Nat.blt d n.n = true:=by rfl):TO E n X s ops (⟨some d,.binOp .shl t x y t',ty,pos,after,none⟩ :: rest) fr A:=nsl (by rw [he];exact k) hx hy hc hd
theorem nsre (he:a / 2 ^ (min c.toNat 64) = r) (k:TO E n X s ops rest ((d,Un r) :: fr) A) (hx:ev fr x = some (Un a):=by first | with_reducible exact ev_lit _ | rfl) (hy:ev fr y = some (.int k' c):=by rfl) (hc:0 ≤ c:=by omega) (hd:Nat.blt d n.n = true:=by rfl):TO E n X s ops (⟨some d,.binOp .shr t x y t',ty,pos,after,none⟩ :: rest) fr A:=nsr (by rw [he];exact k) hx hy hc hd
theorem nmke (he:a % 4294967296 = r) (k:TO E n X s ops rest ((d,Un r) :: fr) A) (hx:ev fr x = some (Un a):=by first | with_reducible exact ev_lit _ | rfl) (hy:ev fr y = some (Un 4294967295):=by rfl) (ha:a < 18446744073709551616:=by omega) (hd:Nat.blt d n.n = true:=by rfl):TO E n X s ops (⟨some d,.binOp .and t x y t',ty,pos,after,none⟩ :: rest) fr A:=nmk (by rw [he];exact k) hx hy ha hd
theorem nque (he:a / b = r) (k:TO E n X s ops rest ((d,Un r) :: fr) A) (hx:ev fr x = some (Un a):=by first | with_reducible exact ev_lit _ | rfl) (hy:ev fr y = some (Un b):=by first | with_reducible exact ev_lit _ | rfl) (h:b ≠ 0:=by omega) (ha:a < 18446744073709551616:=by omega) (hd:Nat.blt d n.n = true:=by rfl):TO E n X s ops (⟨some d,.binOp .quo t x y t',ty,pos,after,none⟩ :: rest) fr A:=nqu (by rw [he];exact k) hx hy h ha hd
end
theorem or_add {a b k:Nat} (hb:b < 2 ^ k):2 ^ k * a ||| b = 2 ^ k * a + b:=(Nat.two_pow_add_eq_or_of_lt hb a).symm
/-! gates: words alone -/
section
variable {P:Program} {E:Env P} {n:Sh} {X:Cx} {s:List K} {fr:Fr} {A:List Ch} {ops:Array Oper} {rest:List Oper} {d:Nat} {ty t':TypeId} {pos:String} {after:Array Edge} {x y:Operand} {op:BinOp}
theorem nao (h:TO E n X s ops (⟨some d,.binOp op 145 x y t',ty,pos,after,none⟩ :: rest) fr A):TO E n X s ops (⟨some d,.binOp op 145 x y t',ty,pos,after,none⟩ :: rest) fr A:=h
theorem naou (h:TO E n X s ops (⟨some d,.binOp op 230 x y t',ty,pos,after,none⟩ :: rest) fr A):TO E n X s ops (⟨some d,.binOp op 230 x y t',ty,pos,after,none⟩ :: rest) fr A:=h
theorem qnao (h:TQ E n X s ops (⟨some d,.binOp op 145 x y t',ty,pos,after,none⟩ :: rest) fr A):TQ E n X s ops (⟨some d,.binOp op 145 x y t',ty,pos,after,none⟩ :: rest) fr A:=h
end
/-! the library's functions of bits -/
def add64 (a b c:Nat):Value:=.tuple #[Un ((a + b + c) % 18446744073709551616),Un ((a + b + c) / 18446744073709551616)]
def sub64 (a b c:Nat):Value:=.tuple #[Un ((a + 18446744073709551616 - b - c) % 18446744073709551616),Un (if a < b + c then 1 else 0)]
theorem call_add64 (a b c:Nat) (hc:c ≤ 1) (w:World):(callFunc 274 #[Un a,Un b,Un c]).run Tryz.prog w = .ok (.value (add64 a b c)) w:=by
 rw [run_callFunc_extern Tryz.func274 (by kernel_rfl) (by kernel_rfl) (by kernel_rfl) (e:=add64Entry) (by kernel_rfl),run_add64 a b c (by omega) (by omega) (by omega) (by omega)]
 simp only [Result.andThen,add64]
 congr 5 <;> omega
theorem call_sub64 (a b c:Nat) (hc:c ≤ 1) (w:World):(callFunc 276 #[Un a,Un b,Un c]).run Tryz.prog w = .ok (.value (sub64 a b c)) w:=by
 rw [run_callFunc_extern Tryz.func276 (by kernel_rfl) (by kernel_rfl) (by kernel_rfl) (e:=sub64Entry) (by kernel_rfl),run_sub64 a b c hc]
 rfl
theorem Tr.of_calls {P:Program} {f:FuncId} {args:List Value} {v:Value} (hc:Callable P f) (h:∀ w,Calls P f args.toArray w fun e w'=>e = .returned v∧w' = w):Tr P f args [] [] fun u D=>u = v∧D = []:=
 ⟨fun w _=>⟨hc,(h w).mono fun e w' ⟨he,hw⟩=>⟨v,he,by subst hw;exact ⟨[],⟨rfl,rfl⟩,Sat.nil _,Mv.refl _ _,fun _ h=>nomatch h⟩⟩⟩,fun _ h=>nomatch h⟩
def mul64 (a b:Nat):Value:=.tuple #[Un (a * b / 18446744073709551616),Un (a * b % 18446744073709551616)]
theorem Mul64_tr (a b:Nat) (ha:a < 18446744073709551616) (hb:b < 18446744073709551616):Tr Tryz.prog 287 [Un a,Un b] [] [] fun v D=>v = mul64 a b∧D = []:=
 Tr.of_calls ⟨_,Tryz.func287,rfl,rfl⟩ fun w=>Any.bits_Mul64 laysMul a b ha hb w
theorem Len64_tr (a:Nat) (ha:a < 18446744073709551616):Tr Tryz.prog 186 [Un a] [] [] fun v D=>v = I (Lib.bitLen a)∧D = []:=
 Tr.of_calls ⟨_,Tryz.func186,rfl,rfl⟩ fun w=>by have:=Any.bits_Len64 laysLen a w (by omega) (by omega);rwa [Int.toNat_natCast] at this
theorem LZ64_tr (a:Nat) (ha:a < 18446744073709551616):Tr Tryz.prog 252 [Un a] [] [] fun v D=>v = I (64 - (Lib.bitLen a:Int))∧D = []:=
 Tr.of_calls ⟨_,Tryz.func252,rfl,rfl⟩ fun w=>by have:=Any.bits_LeadingZeros64 laysLz a w (by omega) (by omega);rwa [Int.toNat_natCast] at this
section
variable {E:Env Tryz.prog} {n:Sh} {X:Cx} {s:List K} {fr:Fr} {A:List Ch} {ops:Array Oper} {rest:List Oper} {d:Nat} {ty:TypeId} {pos:String} {after:Array Edge} {xs:List Operand} {ats:Array TypeId} {a b c:Nat}
theorem cadd (hc:c ≤ 1) (k:TO E n X s ops rest ((d,add64 a b c) :: fr) A) (hv:evs fr xs = some [Un a,Un b,Un c]:=by rfl) (hd:Nat.blt d n.n = true:=by rfl):TO E n X s ops (⟨some d,.call ⟨.value (.func 274),xs.toArray,ats⟩,ty,pos,after,none⟩ :: rest) fr A:=cx (call_add64 a b c hc) k hv hd
theorem csub (hc:c ≤ 1) (k:TO E n X s ops rest ((d,sub64 a b c) :: fr) A) (hv:evs fr xs = some [Un a,Un b,Un c]:=by rfl) (hd:Nat.blt d n.n = true:=by rfl):TO E n X s ops (⟨some d,.call ⟨.value (.func 276),xs.toArray,ats⟩,ty,pos,after,none⟩ :: rest) fr A:=cx (call_sub64 a b c hc) k hv hd
end
end Go.Art
namespace Go.Art
open Go Go.Proofs Go.RowKit
theorem TC.slf {P:Program} {E:Env P} {n:Sh} {X:Cx} {s:List K} {fr:Fr} {A:List Ch} {c0:Code} {v:Value} {xs:List Value} (k:∀ a c,v = .slice a xs.length c→(a = none→xs = [])→TC E n X s c0 fr A) (hh:Has A (vw v xs):=by exact hasA):TC E n X s c0 fr A:=by
 by_cases h:∃ a c,v = .slice a xs.length c∧(a = none→xs = [])
 ·obtain ⟨a,c,h1,h2⟩:=h;exact k a c h1 h2
 ·refine TC.fact (p:=False) (fun w hw=>h ?_) (fun h=>h.elim)
  obtain ⟨a,c,h1,h2,h3,h4⟩:=hh.P w hw
  refine ⟨a,c,h1,fun e=>?_⟩
  cases xs with
  | nil=>rfl
  | cons x r=>obtain ⟨y,hy,_⟩:=h4 0 _ rfl;rw [e] at hy;cases hy
theorem vw_sl {w:World} {v:Value} {xs:List Value} (h:(vw v xs).P w):Sl w v xs:=h
theorem own_O {w:World} {e:TypeId} {v:Value} {xs:List Value} (h:(own e v xs).P w):OwnO w e v xs:=h
theorem TX.one {P:Program} {E:Env P} {n:Sh} {X:Cx} {s:List K} {fr:Fr} {A:List Ch} {e:Exit} {v:Value} {xs:List Value} (k:v.oneCell' = true→TX E n X s e fr A) (hh:Has A (vw v xs):=by exact hasA):TX E n X s e fr A:=
 TX.fact (fun w hw=>by obtain ⟨a,c,h,_⟩:=has_sl hw hh;rw [h];rfl) k
open Go Go.Proofs Go.RowKit
abbrev TN:TypeId:=31
abbrev T64:TypeId:=145
theorem Addr_add0 (a:Addr):a.add 0 = a:=by unfold Addr.add;simp
theorem slSub_all {w:World} {v:Value} {xs:List Value} (h:Sl w v xs):slSub v 0 xs.length = v:=by
 obtain ⟨a,c,rfl,_⟩:=h
 simp only [slSub,Nat.sub_zero]
 cases a with
 | none=>simp
 | some a=>simp [Addr_add0]
theorem slSub_sub (v:Value) (m k:Nat):slSub (slSub v 0 m) 0 k = slSub v 0 k:=by
 cases v with
 | slice a l c=>
  simp only [slSub,Nat.sub_zero]
  cases a with
  | none=>simp
  | some a=>simp [Addr_add0]
 | _=>rfl
theorem has_subu {F:List Ch} {v:Value} {l:List Nat} (h:Has F (vw v (Us l))) {lo hi:Nat} (h1:lo ≤ hi) (h2:hi ≤ l.length):Has F (vw (slSub v lo hi) (Us ((l.take hi).drop lo))):=by
 rw [← Us_sub];exact has_sub h h1 (by simpa using h2)
theorem has_take {F:List Ch} {v:Value} {l:List Nat} (h:Has F (vw v (Us l))) {k:Nat} (h2:k ≤ l.length):Has F (vw (slSub v 0 k) (Us (l.take k))):=has_subu h (Nat.zero_le _) h2
theorem has_drop {F:List Ch} {v:Value} {l:List Nat} (h:Has F (vw v (Us l))) {k:Nat} (h2:k ≤ l.length):Has F (vw (slSub v k l.length) (Us (l.drop k))):=by
 have:=has_subu h h2 (Nat.le_refl _);rwa [List.take_length] at this
theorem im_take (e:TypeId) (v:Value) (l:List Nat) {k:Nat} (h2:k ≤ l.length):Im1 (own e v (Us l)) (own e (slSub v 0 k) (Us (l.take k))):=by
 have:=im_sub e v (Us l) (lo:=0) (hi:=k) (Nat.zero_le _) (by simpa using h2)
 rwa [Us_sub] at this
theorem Has.mono {F G:List Ch} {c:Ch} (h:Has F c) (i:Im G F):Has G c:=⟨fun w hw=>h.P w (i.sat w hw),h.wr,h.rd,fun b hb=>i.ft b (h.ft b hb)⟩
attribute [local irreducible] Fit pt own ro vw mpc lpt vels rels mow lrc dfr
theorem trimmed_tr (v:Value) (l:List Nat):Tr Tryz.prog 185 [v] [vw v (Us l)] [] fun u D=>(∃ k,k ≤ l.length∧u = slSub v 0 k∧nv (l.drop k) = 0∧Tm (l.take k))∧D = []:=by
 refine Tr.enter env _ Tryz.func185 (by kernel_rfl) rfl Tryz.ntmps185 rfl (by repeat (first | exact has00 | refine has01 ?_)) fun w0=>?_
 refine TC.fact (p:=slSub v 0 l.length = v) (fun w hw=>by have:=slSub_all (vw_sl (hw.h (vw v (Us l)) (List.Mem.head _)));rwa [Us_len] at this) fun hv=>?_
 refine TC.lenu (v:=v) (l:=l) fun hlen=>?_
 repeat' first|(refine wo ?_;first|refine oa ?_)|refine sq ?_|refine rg ?_|refine xc ?_|refine nl ?_|refine bk ?_
 refine TC.loop (ι:=Nat × Value) (fun i=>[(0,i.2)]) (fun _=>[]) (fun i=>i.1 ≤ l.length∧i.2 = slSub v 0 i.1∧nv (l.drop i.1) = 0) (fun i=>i.1) (l.length,v) [] ⟨Nat.le_refl _,hv.symm,by simp [nv]⟩ ?_
 rintro ⟨k,u⟩ ⟨h1,h2,h3⟩
 dsimp only at h1 h2 h3 ⊢
 obtain ⟨m,hm⟩ : ∃ m,m = l.take k:=⟨_,rfl⟩
 have hu:Has [vw v (Us l)] (vw u (Us m)):=by rw [h2,hm];exact has_take (has_vw (List.Mem.head _)) h1
 have hkl:m.length = k:=by rw [hm];simp;omega
 have hge:((m.length:Int) - 1).toNat = k - 1:=by omega
 have hT:m.length = 0∨m.getD (((m.length:Int) - 1).toNat) 0 ≠ 0→Tm (l.take k):=fun h=>by
  rw [← hm];refine Tm_of (h.imp List.eq_nil_of_length_eq_zero fun h=>?_)
  rwa [hge,← hkl] at h
 have hZ:0 < k→m.getD (((m.length:Int) - 1).toNat) 0 = 0→nv (l.drop (k - 1)) = 0:=fun h0 h=>by
  have:=nv_step l (k - 1)
  rw [show k - 1 + 1 = k by omega,h3,Nat.mul_zero,Nat.add_zero] at this
  refine this.trans (Eq.trans ?_ h)
  rw [hge,hm,List.getD_eq_getElem?_getD,List.getD_eq_getElem?_getD,List.getElem?_take,if_pos (by omega)]
 have hN:∀ m,slSub u 0 m = slSub v 0 m:=fun m=>by rw [h2,slSub_sub]
 refine TC.im (B:=[vw v (Us l)]) (Im.refl _) ?_
 repeat' first|(refine wo ?_;first|(refine ao ?_;first|refine aw ?_|refine oa ?_)|refine lu ?_|refine oa ?_|refine lnm ?_|refine ixm ?_|refine schm ?_|refine gy ?_|refine gn ?_|(refine gsi (fun hB=>?_) (fun hB=>?_) <;> try (exfalso;omega)))|(refine gc ?_;first|refine cf ?_|(refine ci (fun hB=>?_) (fun hB=>?_) <;> try (exfalso;omega)))|refine sq ?_|refine rg ?_|refine xc ?_|refine nl ?_|refine sk ?_|refine bk ?_|refine xe ?_|refine rt ?_|refine xb ?_
 ·exact lp (k - 1,slSub u 0 ((m.length:Int) - 1).toNat) ⟨by dsimp only;omega,by dsimp only;rw [hN,hge],hZ (by omega) (by omega)⟩
 ·exact r1 ⟨⟨k,h1,h2,h3,hT (.inr (by omega))⟩,rfl⟩
 ·exact r1 ⟨⟨k,h1,h2,h3,hT (.inl (by omega))⟩,rfl⟩
theorem digit_tr (v:Value) (l:List Nat) (i:Int) (hi:0 ≤ i):Tr Tryz.prog 251 [v,I i] [vw v (Us l)] [] fun u D=>u = Un (l.getD i.toNat 0)∧D = []:=by
 have h0:¬ i < l.length→l.getD i.toNat 0 = 0:=fun h=>by rw [List.getD_eq_getElem?_getD,List.getElem?_eq_none (by omega)];rfl
 refine Tr.enter env _ Tryz.func251 (by kernel_rfl) rfl Tryz.ntmps251 rfl (by repeat (first | exact has00 | refine has01 ?_)) fun w0=>?_
 refine TC.lenu (v:=v) (l:=l) fun hlen=>?_
 repeat' first|(refine wo ?_;first|(refine ao ?_;first|refine oa ?_)|refine lu ?_|refine oa ?_|refine lnm ?_|refine ixm ?_)|(refine gc ?_;first|(refine ci (fun hB=>?_) (fun hB=>?_) <;> try (exfalso;omega)))|refine sq ?_|refine rg ?_|refine xc ?_|refine nl ?_|refine sk ?_|refine rt ?_
 ·exact r1 ⟨rfl,rfl⟩
 ·exact r1 ⟨by rw [h0 (by omega)],rfl⟩
theorem NClone_tr (v:Value) (l:List Nat) (hl:l.length ≤ 17592186044416):Tr Tryz.prog 187 [v] [vw v (Us l)] [] fun u D=>u.oneCell' = true∧D = [own T64 u (Us l)]:=by
 refine Tr.enter env _ Tryz.func187 (by kernel_rfl) rfl Tryz.ntmps187 rfl (by repeat (first | exact has00 | refine has01 ?_)) fun w0=>?_
 refine TC.slf (v:=v) (xs:=Us l) fun a c hv hn=>?_
 cases a with
 | none=>
  have hl0:l = []:=by have:=hn rfl;simpa using this
  subst hl0 hv
  repeat' first|(refine wo ?_;first|(refine ao ?_;first|refine isl ?_)|refine oa ?_)|(refine gc ?_;first|refine ct ?_)|refine sq ?_|refine rg ?_|refine xc ?_|refine nl ?_|refine rt ?_
  refine TX.im (own_nil T64 _) ?_
  exact r1 ⟨rfl,rfl⟩
 | some a=>
  subst hv
  repeat' first|(refine sl0 fun o=>?_)|(refine apu (l:=[]) (news:=l) (fun o=>?_);refine TO.one (v:=o) (xs:=Us ([] ++ l)) fun ho=>?_)|(refine wo ?_;first|(refine ao ?_;first|refine isl ?_)|refine oa ?_)|(refine gc ?_;first|refine cf ?_)|refine sq ?_|refine rg ?_|refine xc ?_|refine nl ?_|refine sk ?_|refine rt ?_
  exact r1 ⟨ho,rfl⟩
theorem NClip_tr (v:Value) (l:List Nat):Tr Tryz.prog 275 [v] [] [own T64 v (Us l)] fun u D=>u.oneCell' = true∧D = [own T64 u (Us l)]:=by
 have hl:=Us_len l
 refine Tr.enter env _ Tryz.func275 (by kernel_rfl) rfl Tryz.ntmps275 rfl (by repeat (first | exact has00 | refine has01 ?_)) fun w0=>?_
 repeat' first|(refine ln (xs:=Us l) ?_)|refine clpo (xs:=Us l) ?_|(refine wo ?_;first|refine oa ?_)|refine sq ?_|refine rg ?_|refine xc ?_|refine nl ?_|refine rt ?_
 refine TX.one (v:=clipV v (Us l).length) (xs:=Us l) fun ho=>?_
 exact r1 ⟨ho,rfl⟩
theorem Trim_tr (v:Value) (l:List Nat) (hd:Dg l) (hl:l.length ≤ 17592186044416):Tr Tryz.prog 132 [v] [vw v (Us l)] [] fun u D=>u.oneCell' = true∧D = [own T64 u (Us (dg (nv l)))]:=by
 refine Tr.enter env _ Tryz.func132 (by kernel_rfl) rfl Tryz.ntmps132 rfl (by repeat (first | exact has00 | refine has01 ?_)) fun w0=>?_
 repeat' first|(refine gca ?_;first|(refine ca (trimmed_tr v l) ?_;rintro _ _ ⟨⟨k,h1,rfl,h2,h3⟩,rfl⟩;have hk:dg (nv l) = l.take k:=(by rw [← dg_top hd h2,dg_nv (hd.take k) h3]);rw [hk];have hh:Has [vw v (Us l)] (vw (slSub v 0 k) (Us (l.take k))):=has_take (has_vw (List.Mem.head _)) h1;refine TO.im (B:=[vw v (Us l)]) (Im.refl _) ?_)|(refine ca (NClone_tr (slSub v 0 k) (l.take k) (by rw [List.length_take];omega)) ?_;rintro o _ ⟨ho,rfl⟩))|(refine wo ?_;first|refine oa ?_)|refine sq ?_|refine rg ?_|refine xc ?_|refine nl ?_|refine rt ?_
 exact r1 ⟨ho,rfl⟩
theorem Check_tr (v:Value) (l:List Nat):Tr Tryz.prog 153 [v] [vw v (Us l)] [] fun u D=>u = I (if 0 < l.length∧l.getD (l.length - 1) 0 = 0 then 6 else 0)∧D = []:=by
 have hge:((l.length:Int) - 1).toNat = l.length - 1:=by omega
 rw [← hge]
 refine Tr.enter env _ Tryz.func153 (by kernel_rfl) rfl Tryz.ntmps153 rfl (by repeat (first | exact has00 | refine has01 ?_)) fun w0=>?_
 refine TC.lenu (v:=v) (l:=l) fun hlen=>?_
 repeat' first|(refine wo ?_;first|(refine ao ?_;first|refine aw ?_|refine oa ?_)|refine lu ?_|refine oa ?_|refine lnm ?_|refine ixm ?_|refine gy ?_|refine gn ?_|(refine gsi (fun hB=>?_) (fun hB=>?_) <;> try (exfalso;omega)))|(refine gc ?_;first|refine cf ?_|(refine ci (fun hB=>?_) (fun hB=>?_) <;> try (exfalso;omega)))|refine sq ?_|refine rg ?_|refine xc ?_|refine nl ?_|refine sk ?_|refine rt ?_
 ·exact r1 ⟨by rw [if_pos (by omega)],rfl⟩
 ·exact r1 ⟨by rw [if_neg (by omega)],rfl⟩
 ·exact r1 ⟨by rw [if_neg (by omega)],rfl⟩
theorem Of_tr (x:Nat) (hx:x < 18446744073709551616):Tr Tryz.prog 129 [Un x] [] [] fun u D=>u.oneCell' = true∧D = [own T64 u (Us (dg x))]:=by
 have e:nv [x] = x:=by simp [nv]
 refine Tr.enter env _ Tryz.func129 (by kernel_rfl) rfl Tryz.ntmps129 rfl (by repeat (first | exact has00 | refine has01 ?_)) fun w0=>?_
 repeat' first|(refine gca ?_;first|(refine ca (Trim_tr o [x] (Dg.one hx) (by simp)) ?_;rw [e];rintro o2 _ ⟨ho2,rfl⟩))|(refine slu [x] fun o ho=>?_)|(refine wo ?_;first|refine oa ?_)|refine sq ?_|refine rg ?_|refine xc ?_|refine nl ?_|refine rt ?_
 exact r1 ⟨ho2,rfl⟩
end Go.Art
namespace Go.Art
open Go Go.Proofs Go.RowKit
def bxr (p q:Int):Int:=((BitVec.ofInt 8 p ^^^ BitVec.ofInt 8 q).toNat:Int)
structure Tl (a v:Value) (n k:Nat):Prop where
 le:k ≤ n
 blk:v.ownBlock = a.ownBlock
 ex:∃ o c,v = .slice o (n - k) c∧n - k ≤ c∧c ≤ maxLen∧(k < n→∃ o' c',a = .slice (some o') n c'∧o = some (o'.add k))
theorem Tl.zero {w:World} {a:Value} {xs:List Value} (h:Sl w a xs):Tl a a xs.length 0:=by
 obtain ⟨o,c,rfl,h1,h2,h3⟩:=h
 refine ⟨Nat.zero_le _,rfl,o,c,rfl,by omega,h2,fun hlt=>?_⟩
 obtain ⟨x,rfl,_⟩:=h3 0 _ (List.getElem?_eq_getElem hlt)
 exact ⟨x,c,rfl,by rw [show x.add 0 = x by unfold Addr.add;simp]⟩
section
variable {P:Program} {E:Env P} {n:Sh} {X:Cx} {s:List K} {fr:Fr} {A A':List Ch} {ops:Array Oper} {rest:List Oper} {d:Nat} {ty t t' el:TypeId} {pos:String} {after:Array Edge} {z v u:Value} {x y:Operand} {b j k sz by_:Nat} {w:World} {p q:Int}
def lay (l:List Int) (k:Nat) (m:List Int):List Int:=l.take k ++ m ++ l.drop (k + m.length)
theorem SO_copyO {e:TypeId} {a v:Value} {xs cs:List Value} {ad:Addr} {c:Nat} (hd:Nat.blt d n.n = true) (ht:lk E.und t = some (.slice e)) (he:lk E.inf e = some (z,1,by_)) (hown:OwnO w e a xs) (tl:Tl a v xs.length k) (hk:k + cs.length ≤ xs.length) (h0:0 < cs.length)
  (hx:ev fr x = some v) (hy:ev fr y = some (.slice (some ad) cs.length c)) (hsrc:∀ j u,cs[j]? = some u→w.cell? (ad.add j) = some u) (h1:∀ c ∈ cs,c.oneCell' = true)
  (h:∀ w',Upd w w' a.ownBlock.toList→OwnO w' e a (xs.take k ++ cs ++ xs.drop (k + cs.length))→SO E n X.Q s ops rest ((d,I cs.length) :: fr) w') :
  SO E n X.Q s ops (⟨some d,.call ⟨.builtin .copy,#[x,y],#[t,t']⟩,ty,pos,after,none⟩ :: rest) fr w:=by
 obtain ⟨inf,hi,_,hsz,_⟩:=E.info he
 rcases hown with ⟨_,rfl⟩ | ⟨g,o,cap,cur,rfl,hb,h2,h3,h4,h5⟩
 ·simp only [List.length_nil] at hk;omega
 ·obtain ⟨o1,c1,rfl,g1,g2,g3⟩:=tl.ex
  obtain ⟨o',c',e1,rfl⟩:=g3 (by omega)
  cases e1
  rw [Addr.add_lit] at hx
  have hrun:=run_copy_row (P:=P) w t t' ty e g (o + k) (xs.length - k) c1 ad cs.length c cur e cs (E.un ht) (by rw [hi];simp [hsz]) hb (by simp only [Nat.min_def];split <;> omega) hsrc (by omega) h1
  refine SO_v hd (w':=w.setRow g (cur.toList.take (o + k) ++ cs ++ cur.toList.drop (o + k + cs.length)).toArray) (v:=I cs.length) ⟨fun a ha' _ _ _ _=>?_⟩ (h _ (by simpa [Value.ownBlock] using Upd.setRow w g _) (.inr ⟨g,o,cap,_,?_,setRow_heap w g cur _ e _ hb,?_,h3,?_,?_⟩))
  ·simp only [execOp,resolve]
   simp [ha'.ev hx,ha'.ev hy,invoke,builtin,hrun,goInt]
  ·rw [show (xs.take k ++ cs ++ xs.drop (k + cs.length)).length = xs.length by simp;omega]
  ·rw [show (xs.take k ++ cs ++ xs.drop (k + cs.length)).length = xs.length by simp;omega];exact h2
  ·simp;omega
  ·rw [show (xs.take k ++ cs ++ xs.drop (k + cs.length)).length = xs.length by simp;omega]
   have hx':xs = (cur.toList.drop o).take xs.length:=h5.symm
   have hcl:cur.toList.length = cur.size:=by simp
   refine List.ext_getElem? fun i=>?_
   have hgx:∀ m,m < xs.length→xs[m]? = cur.toList[o + m]?:=fun m hm=>by
    conv=>lhs;rw [hx']
    rw [List.getElem?_take,if_pos hm,List.getElem?_drop]
   by_cases hi':i < xs.length
   ·rw [List.getElem?_take,if_pos hi',List.getElem?_drop]
    simp only [List.getElem?_append,List.getElem?_take,List.getElem?_drop,List.length_append,List.length_take]
    rw [show min (o + k) cur.toList.length = o + k by omega,show min k xs.length = k by omega]
    by_cases c1:i < k
    ·rw [if_pos (by omega),if_pos (by omega),if_pos (by omega),if_pos (by omega),if_pos (by omega),if_pos c1,hgx i hi']
    ·by_cases c2:i < k + cs.length
     ·rw [if_pos (by omega),if_neg (by omega),if_pos (by omega),if_neg (by omega)]
      congr 1;omega
     ·rw [if_neg (by omega),if_neg (by omega),hgx _ (by omega)]
      congr 1;omega
   ·rw [List.getElem?_eq_none (by simp;omega),List.getElem?_eq_none (by simp;omega)]
end
end Go.Art
namespace Go.Art
open Go Go.Proofs Go.RowKit
section
variable {P:Program} {E:Env P} {n:Sh} {X:Cx} {s:List K} {fr:Fr} {A A':List Ch} {ops:Array Oper} {rest:List Oper} {d:Nat} {ty t t':TypeId} {pos:String} {after:Array Edge} {x y:Operand} {v u z:Value} {by_:Nat} {xs:List Value} {w:World}
theorem R_copy0 {e:TypeId} {o o2:Option Addr} {m c c2:Nat} (ht:lk E.und t = some (.slice e)) (he:lk E.inf e = some (z,1,by_)) (hx:ev fr x = some (.slice o m c)) (hy:ev fr y = some (.slice o2 0 c2)) :
  OpV P n fr (.call ⟨.builtin .copy,#[x,y],#[t,t']⟩) ty w (I 0) w:=⟨fun a ha _ _ _ _=>by
 obtain ⟨inf,hi,_,hsz,_⟩:=E.info he
 have hl:∀ b:Addr,(loadCells b 0).run P w = .ok #[] w:=fun b=>run_loadCells_list (P:=P) w b [] (by intro j v h;cases h)
 simp only [execOp,resolve]
 simp only [List.map_toArray,List.map_cons,List.map_nil,ha.ev hx,ha.ev hy]
 cases o <;> cases o2 <;> simp [invoke,builtin,Builtin.copy_,run_underlying (P:=P) (E.un ht),Builtin.lenOf,Builtin.firstCells,sizeOf,typeInfo,hi,hsz,hl,storeCells,goInt]⟩
theorem cpf {e:TypeId} {cs:List Value} (kk:TO E n X s ops rest ((d,I cs.length) :: fr) (own e v (cs ++ xs.drop cs.length) :: A')) (hx:ev fr x = some v:=by rfl) (hy:ev fr y = some u:=by rfl) (hm:Tk (own e v xs) A A':=by exact tkA) (hu:Has A' (vw u cs):=by exact hasA) (hk:cs.length ≤ xs.length:=by omega)
  (h1:∀ c ∈ cs,c.oneCell' = true) (ht:lk E.und t = some (.slice e):=by rfl) (he:lk E.inf e = some (z,1,by_):=by rfl) (hd:Nat.blt d n.n = true:=by rfl) :
  TO E n X s ops (⟨some d,.call ⟨.builtin .copy,#[x,y],#[t,t']⟩,ty,pos,after,none⟩ :: rest) fr A:=⟨fun w hw=>by
 have h2:=hw.im hm
 have h3:OwnO w e v xs:=h2.mem (List.Mem.head _)
 have h4:Sl w u cs:=has_sl (Sat.cons.1 h2.sat).2.2 hu
 obtain ⟨o,c,e1,g1,g2,g3⟩:=h4
 subst e1
 cases cs with
 | nil=>
  obtain ⟨o',c',e2,_⟩:=h3.sl
  subst e2
  exact (TO.val (fun _ _=>R_copy0 ht he hx hy) (A:=A) ⟨fun w' hw'=>kk.run w' (hw'.im hm)⟩ hd).run w hw
 | cons a l=>
  obtain ⟨ad,e2,_⟩:=g3 0 _ rfl
  subst e2
  refine SO_copyO hd ht he h3 (Tl.zero h3.sl) (by omega) (by simp) hx hy (fun j u hj=>?_) h1 fun w' hU hO=>kk.run w' (h2.set hU (fun b hb=>.inl (by show v.ownBlock = some b;simpa using hb)) (show OwnO w' e v _ from by simpa using hO) ?_ (fun _ h=>h))
  ·obtain ⟨ad2,e3,h5⟩:=g3 j u hj
   cases e3;exact h5
  ·rintro b (hb | hb | hb);exact .inl hb;exact hb.elim;exact hb.elim⟩
end
end Go.Art
namespace Go.Art
open Go Go.Proofs Go.RowKit
theorem zeroCells1 (z:Value) (q:Nat):Builtin.zeroCells #[z] q = (List.replicate q z).toArray:=by
 apply Array.ext'
 simp only [Builtin.zeroCells,List.size_toArray,List.length_singleton,Nat.mul_one,Nat.mod_one,Array.toList_map,Array.toList_range]
 rw [show (fun i:Nat=>(#[z]:Array Value)[0]!) = fun _=>z from rfl,List.map_const',List.length_range]
theorem own_write {w:World} {e:TypeId} {g o cap k:Nat} {cur:Array Value} {xs cs:List Value} (hb:w.heap[g]? = some (.cells cur e (0,0))) (h2:xs.length ≤ cap) (h3:cap ≤ maxLen) (h4:o + cap ≤ cur.size) (h5:(cur.toList.drop o).take xs.length = xs) (hk:k + cs.length ≤ xs.length) :
  OwnO (w.setRow g (cur.toList.take (o + k) ++ cs ++ cur.toList.drop (o + k + cs.length)).toArray) e (.slice (some ⟨g,o,none⟩) xs.length cap) (xs.take k ++ cs ++ xs.drop (k + cs.length)):=by
 have hl:(xs.take k ++ cs ++ xs.drop (k + cs.length)).length = xs.length:=by simp;omega
 refine .inr ⟨g,o,cap,_,by rw [hl],setRow_heap w g cur _ e _ hb,by rw [hl];exact h2,h3,by simp;omega,?_⟩
 rw [hl]
 have hx':xs = (cur.toList.drop o).take xs.length:=h5.symm
 have hcl:cur.toList.length = cur.size:=by simp
 refine List.ext_getElem? fun i=>?_
 have hgx:∀ m,m < xs.length→xs[m]? = cur.toList[o + m]?:=fun m hm=>by
  conv=>lhs;rw [hx']
  rw [List.getElem?_take,if_pos hm,List.getElem?_drop]
 by_cases hi':i < xs.length
 ·rw [List.getElem?_take,if_pos hi',List.getElem?_drop]
  simp only [List.getElem?_append,List.getElem?_take,List.getElem?_drop,List.length_append,List.length_take]
  rw [show min (o + k) cur.toList.length = o + k by omega,show min k xs.length = k by omega]
  by_cases c1:i < k
  ·rw [if_pos (by omega),if_pos (by omega),if_pos (by omega),if_pos (by omega),if_pos (by omega),if_pos c1,hgx i hi']
  ·by_cases c2:i < k + cs.length
   ·rw [if_pos (by omega),if_neg (by omega),if_pos (by omega),if_neg (by omega)]
    congr 1;omega
   ·rw [if_neg (by omega),if_neg (by omega),hgx _ (by omega)]
    congr 1;omega
 ·rw [List.getElem?_eq_none (by simp;omega),List.getElem?_eq_none (by simp;omega)]
section
variable {P:Program} {E:Env P} {n:Sh} {X:Cx} {s:List K} {fr:Fr} {A A':List Ch} {ops:Array Oper} {rest:List Oper} {d:Nat} {ty t t':TypeId} {pos:String} {after:Array Edge} {x y:Operand} {w:World} {v u z:Value} {by_ lo hi:Nat} {xs cs:List Value} {e:TypeId}
theorem apz {m:Int} {k1:IntKind} (k:∀ v',v'.oneCell' = true→(∃ b c,v' = .slice (some ⟨b,0,none⟩) m.toNat c∧m.toNat ≤ c)→TO E n X s ops rest ((d,v') :: fr) (own e v' (List.replicate m.toNat z) :: A)) (hx:ev fr x = some (.slice none 0 0):=by rfl) (hy:ev fr y = some (.int k1 m):=by rfl) (hm:0 < m∧m ≤ 17592186044416:=by omega)
  (ht:lk E.und t = some (.slice e):=by rfl) {kn:IntKind} (htn:lk E.und t' = some (.int kn):=by rfl) (he:lk E.inf e = some (z,1,by_):=by rfl) (hz:z.cells = #[z]:=by rfl) (hby:by_ ≤ 8:=by decide) (hd:Nat.blt d n.n = true:=by rfl) :
  TO E n X s ops (⟨some d,.call ⟨.builtin .append,#[x,y],#[t,t']⟩,ty,pos,after,none⟩ :: rest) fr A:=⟨fun w hw=>by
 obtain ⟨inf,hi,hiz,his,hib⟩:=E.info he
 obtain ⟨j,rfl⟩ : ∃ j:Nat,m = j:=⟨m.toNat,by omega⟩
 rw [Int.toNat_natCast] at k
 have hr:=Lib.run_append_nil_zeros (P:=P) w t t' ty e inf z k1 kn (E.un ht) (E.un htn) hi hiz j (by omega) (by rw [his];decide) (by omega) (by rw [hib];have:=Nat.mul_le_mul (show j ≤ 17592186044416 by omega) hby;omega)
 have hge:=grownCap_ge w j 0 e
 have hzc:∀ q,Builtin.zeroCells z.cells q = (List.replicate q z).toArray:=fun q=>by rw [hz];exact zeroCells1 z q
 refine SO_v hd (w':=w.drew.alloc (.cells (Builtin.zeroCells z.cells j ++ Builtin.zeroCells z.cells (grownCap w j 0 e - j)) e)) (v:=.slice (some ⟨w.heap.size,0,none⟩) j (grownCap w j 0 e)) ⟨fun a ha' _ _ _ _=>?_⟩ ((k _ rfl ⟨_,_,rfl,hge⟩).run _ (hw.new (((Upd.drew w).trans (Upd.alloc w.drew _)).weak (by simp)) ?_ ?_ (fun _ h=>h)))
 ·simp only [execOp,resolve]
  simp [ha'.ev hx,ha'.ev hy,invoke,builtin,hr]
 ·refine .inr ⟨w.heap.size,0,grownCap w j 0 e,_,by simp,heap_alloc_new w.drew _,by simpa using hge,grownCap_le_maxLen w j 0 e (by unfold maxLen;omega),?_,?_⟩
  ·rw [hzc,hzc];simp;omega
  ·rw [hzc,hzc];simp
 ·rintro b (h1 | h1 | h1)
  ·have h1':some w.heap.size = some b:=h1
   injection h1' with h1'
   rw [← h1'];exact Nat.le_refl _
  ·exact h1.elim
  ·exact h1.elim⟩
theorem capr {a0:Option Addr} {m c:Nat} (k:TO E n X s ops rest ((d,I c) :: fr) A) (hx:ev fr x = some (.slice a0 m c):=by rfl) (ht:lk E.und t = some (.slice e):=by rfl) (hd:Nat.blt d n.n = true:=by rfl):TO E n X s ops (⟨some d,.call ⟨.builtin .cap,#[x],#[t]⟩,ty,pos,after,none⟩ :: rest) fr A:=TO.val (fun w _=>⟨fun a ha _ _ _ _=>by
 simp only [execOp,resolve]
 simp [ha.ev hx,invoke,builtin,Builtin.cap_,run_underlying (P:=P) (E.un ht) w,goInt]⟩) k hd
theorem R_resl {m:Nat} {a0:Addr} {c:Nat} {hi:Int} {k2:IntKind} (ht:lk E.und t = some (.slice e)) (he:lk E.inf e = some (z,1,by_)) (hx:ev fr x = some (.slice (some a0) m c)) (hh:ev fr y = some (.int k2 hi)) (h0:0 ≤ hi) (hc:hi.toNat ≤ c) :
  OpV P n fr (.slice t x none (some y) none) ty w (.slice (some a0) hi.toNat c) w:=⟨fun a ha _ _ _ _=>by
 obtain ⟨inf,hi',_,hsz,_⟩:=E.info he
 obtain ⟨q,rfl⟩ : ∃ q:Nat,hi = q:=⟨hi.toNat,by omega⟩
 rw [Int.toNat_natCast] at hc
 have b1:∀ (cd:BoundsCode),(Instr.sliceBound (.int k2 (q:Int)) c cd).run P w = .ok q w:=fun cd=>by
  have:(0:Int) ≤ (q:Int)∧(q:Int) ≤ (c:Int):=by omega
  simp [Instr.sliceBound,asIntOf,this]
 simp only [execOp,ha.ev hx]
 simp only [Option.map,ha.ev hh]
 have e0:a0.add 0 = a0:=Addr_add0 a0
 simp [Instr.sliceAt,Instr.slice,run_underlying (P:=P) (E.un ht) w,Instr.sliceBounds,sizeOf,typeInfo,hi',hsz,b1,e0]⟩
theorem resl {m:Nat} {a0:Addr} {c:Nat} {hi:Int} {k2:IntKind} (k:TO E n X s ops rest ((d,.slice (some a0) hi.toNat c) :: fr) A) (hc:hi.toNat ≤ c) (hx:ev fr x = some (.slice (some a0) m c):=by rfl) (hh:ev fr y = some (.int k2 hi):=by rfl) (h0:0 ≤ hi:=by omega) (ht:lk E.und t = some (.slice e):=by rfl) (he:lk E.inf e = some (z,1,by_):=by rfl) (hd:Nat.blt d n.n = true:=by rfl) :
  TO E n X s ops (⟨some d,.slice t x none (some y) none,ty,pos,after,none⟩ :: rest) fr A:=TO.val (fun w _=>R_resl ht he hx hh h0 hc) k hd
theorem capz (k:TO E n X s ops rest ((d,I 0) :: fr) A) (hx:ev fr x = some (.slice none 0 0):=by rfl) (ht:lk E.und t = some (.slice e):=by rfl) (hd:Nat.blt d n.n = true:=by rfl):TO E n X s ops (⟨some d,.call ⟨.builtin .cap,#[x],#[t]⟩,ty,pos,after,none⟩ :: rest) fr A:=capr (c:=0) k hx ht hd
theorem lnz (k:TO E n X s ops rest ((d,I 0) :: fr) A) (hx:ev fr x = some (.slice none 0 0):=by rfl) (ht:lk E.und t = some (.slice e):=by rfl) (hd:Nat.blt d n.n = true:=by rfl):TO E n X s ops (⟨some d,.call ⟨.builtin .len,#[x],#[t]⟩,ty,pos,after,none⟩ :: rest) fr A:=ln (xs:=[]) k hx has_nil ht hd
theorem slnz {k2:IntKind} (k:TO E n X s ops rest ((d,nS) :: fr) A) (hx:ev fr x = some (.slice none 0 0):=by rfl) (hh:ev fr y = some (.int k2 0):=by rfl) (ht:lk E.und t = some (.slice e):=by rfl) (he:lk E.inf e = some (z,1,by_):=by rfl) (hd:Nat.blt d n.n = true:=by rfl) :
  TO E n X s ops (⟨some d,.slice t x none (some y) none,ty,pos,after,none⟩ :: rest) fr A:=sch (v:=nS) (xs:=[]) (hi:=0) k hx hh has_nil ⟨Int.le_refl _,Int.le_refl _⟩ ht he hd
theorem piece {g o n' cap:Nat} (hlt:lo < n') (hc:n' ≤ cap):slSub (.slice (some ⟨g,o,none⟩) n' cap) lo hi = .slice (some ⟨g,o + lo,none⟩) (hi - lo) (cap - lo):=by
 simp only [slSub]
 rw [if_neg (by omega)]
 simp [Addr.add_lit]
theorem clr {a:Value} (k:TO E n X s ops rest fr (own e a (xs.take lo ++ List.replicate (hi - lo) z ++ xs.drop hi) :: A')) (hx:ev fr x = some (slSub a lo hi)) (hm:Tk (own e a xs) A A':=by exact tkA) (hlo:lo ≤ hi:=by omega) (hhi:hi ≤ xs.length:=by omega)
  (ht:lk E.und t = some (.slice e):=by rfl) (he:lk E.inf e = some (z,1,by_):=by rfl) (hz:z.cells = #[z]:=by rfl) (hz1:z.oneCell' = true:=by rfl):TO E n X s ops (⟨none,.call ⟨.builtin .clear,#[x],#[t]⟩,ty,pos,after,none⟩ :: rest) fr A:=⟨fun w hw=>by
 have h2:=hw.im hm
 have h3:OwnO w e a xs:=h2.mem (List.Mem.head _)
 obtain ⟨inf,hi',hiz,hsz,_⟩:=E.info he
 have hzc:∀ q,Builtin.zeroCells z.cells q = (List.replicate q z).toArray:=fun q=>by rw [hz];exact zeroCells1 z q
 rcases h3 with ⟨rfl,rfl⟩ | ⟨g,o,cap,cur,rfl,hb,g2,g3,g4,g5⟩
 ·obtain rfl:hi = 0:=by simpa using hhi
  obtain rfl:lo = 0:=by omega
  refine SO_n (w':=w) (v:=.tuple #[]) ⟨fun a ha' _ _ _ _=>?_⟩ ((k.run w (by simpa using h2)))
  simp only [execOp,resolve]
  simp [ha'.ev hx,invoke,builtin,Builtin.clear_,run_underlying (P:=P) (E.un ht) w,slSub]
 ·by_cases hlt:lo < hi
  ·rw [piece (n':=xs.length) (by omega) g2] at hx
   have hst:=run_storeCells_at P g (o + lo) e (List.replicate (hi - lo) z) 0 cur w hb (by simp;omega) (fun c hc=>by rw [List.eq_of_mem_replicate hc];exact hz1)
   simp only [Nat.add_zero,List.length_replicate] at hst
   have hne:hi - lo ≠ 0:=by omega
   refine SO_n (w':=w.setRow g (cur.toList.take (o + lo) ++ List.replicate (hi - lo) z ++ cur.toList.drop (o + lo + (hi - lo))).toArray) (v:=.tuple #[]) ⟨fun a ha' _ _ _ _=>?_⟩ (k.run _ (h2.set (by simpa [Value.ownBlock] using Upd.setRow w g _) (fun b hb=>.inl (by simp at hb;subst hb;rfl)) ?_ ?_ (fun _ h=>h)))
   ·simp only [execOp,resolve]
    obtain ⟨q,hq⟩ : ∃ q,hi - lo = q + 1:=⟨hi - lo - 1,by omega⟩
    rw [hq] at hst
    simp [ha'.ev hx,invoke,builtin,Builtin.clear_,run_underlying (P:=P) (E.un ht) w,hq,zeroValue,typeInfo,hi',hiz,hzc,hst]
   ·have:=own_write (w:=w) (k:=lo) (cs:=List.replicate (hi - lo) z) hb g2 g3 g4 g5 (by simp;omega)
    simp only [List.length_replicate] at this
    rw [show lo + (hi - lo) = hi by omega] at this
    have hl:(xs.take lo ++ List.replicate (hi - lo) z ++ xs.drop hi).length = xs.length:=by simp;omega
    show OwnO _ _ _ _
    exact this
   ·rintro b (hb' | hb' | hb')
    ·exact .inl hb'
    ·exact hb'.elim
    ·exact hb'.elim
  ·obtain rfl:lo = hi:=by omega
   rw [Nat.sub_self,List.replicate_zero,List.append_nil,List.take_append_drop] at k
   obtain ⟨a',c',hsl⟩ : ∃ a' c',slSub (Value.slice (some ⟨g,o,none⟩) xs.length cap) lo lo = .slice a' 0 c':=by
    simp only [slSub,Nat.sub_self];exact ⟨_,_,rfl⟩
   rw [hsl] at hx
   refine SO_n (w':=w) (v:=.tuple #[]) ⟨fun a ha' _ _ _ _=>?_⟩ (k.run w h2)
   simp only [execOp,resolve]
   cases a' <;> simp [ha'.ev hx,invoke,builtin,Builtin.clear_,run_underlying (P:=P) (E.un ht) w]⟩
theorem cps {a:Value} (kk:TO E n X s ops rest ((d,I cs.length) :: fr) (own e a (xs.take lo ++ cs ++ xs.drop (lo + cs.length)) :: A')) (hx:ev fr x = some (slSub a lo hi)) (hy:ev fr y = some u:=by rfl) (hm:Tk (own e a xs) A A':=by exact tkA) (hu:Has A' (vw u cs):=by exact hasA) (hlo:lo < hi:=by omega) (hhi:hi ≤ xs.length:=by omega) (hcs:lo + cs.length ≤ hi:=by omega)
  (h1:∀ c ∈ cs,c.oneCell' = true) (ht:lk E.und t = some (.slice e):=by rfl) (he:lk E.inf e = some (z,1,by_):=by rfl) (hd:Nat.blt d n.n = true:=by rfl) :
  TO E n X s ops (⟨some d,.call ⟨.builtin .copy,#[x,y],#[t,t']⟩,ty,pos,after,none⟩ :: rest) fr A:=⟨fun w hw=>by
 have h2:=hw.im hm
 have h3:OwnO w e a xs:=h2.mem (List.Mem.head _)
 have h4:Sl w u cs:=has_sl (Sat.cons.1 h2.sat).2.2 hu
 obtain ⟨inf,hi',_,hsz,_⟩:=E.info he
 obtain ⟨o2,c2,rfl,p1,p2,p3⟩:=h4
 rcases h3 with ⟨_,rfl⟩ | ⟨g,o,cap,cur,rfl,hb,g2,g3,g4,g5⟩
 ·simp only [List.length_nil] at hhi;omega
 ·rw [piece (n':=xs.length) (by omega) g2] at hx
  by_cases h0:cs = []
  ·subst h0
   refine (TO.val (fun _ _=>R_copy0 ht he hx hy) (A:=A) ⟨fun w' hw'=>kk.run w' (by simpa using hw'.im hm)⟩ hd).run w hw
  ·have hlen:0 < cs.length:=List.length_pos_iff.2 h0
   obtain ⟨ad,rfl,_⟩:=p3 0 _ (List.getElem?_eq_getElem hlen)
   have hrun:=run_copy_row (P:=P) w t t' ty e g (o + lo) (hi - lo) (cap - lo) ad cs.length c2 cur e cs (E.un ht) (by rw [hi'];simp [hsz]) hb (by simp only [Nat.min_def];split <;> omega) (fun j u hj=>by obtain ⟨ad2,e3,h5⟩:=p3 j u hj;cases e3;exact h5) (by omega) h1
   refine SO_v hd (w':=w.setRow g (cur.toList.take (o + lo) ++ cs ++ cur.toList.drop (o + lo + cs.length)).toArray) (v:=I cs.length) ⟨fun a ha' _ _ _ _=>?_⟩ (kk.run _ (h2.set (by simpa [Value.ownBlock] using Upd.setRow w g _) (fun b hb=>.inl (by simp at hb;subst hb;rfl)) ?_ ?_ (fun _ h=>h)))
   ·simp only [execOp,resolve]
    simp [ha'.ev hx,ha'.ev hy,invoke,builtin,hrun,goInt]
   ·exact own_write (w:=w) hb g2 g3 g4 g5 (by omega)
   ·rintro b (hb' | hb' | hb')
    ·exact .inl hb'
    ·exact hb'.elim
    ·exact hb'.elim⟩
end
attribute [local irreducible] Fit pt own ro vw mpc lpt vels rels mow lrc dfr
end Go.Art
namespace Go.Art
open Go Go.Proofs Go.RowKit
attribute [local irreducible] Fit pt own ro vw mpc lpt vels rels mow lrc dfr
theorem Grow0_tr:Tr Tryz.prog 292 [nS,I 0] [] [] fun u D=>u = nS∧D = []:=by
 refine Tr.enter env _ Tryz.func292 (by kernel_rfl) rfl Tryz.ntmps292 rfl (by repeat (first | exact has00 | refine has01 ?_)) fun w0=>?_
 repeat' first|refine capz ?_|refine lnz ?_|(refine wo ?_;first|(refine ao ?_;first|refine aw ?_|refine oa ?_)|refine oa ?_)|(refine gc ?_;first|refine cf ?_)|refine sq ?_|refine rg ?_|refine xc ?_|refine nl ?_|refine sk ?_|refine rt ?_
 exact r1 ⟨rfl,rfl⟩
theorem GrowP_tr (n:Int) (hn:0 < n∧n ≤ 17592186044416):Tr Tryz.prog 292 [nS,I n] [] [] fun u D=>∃ b c,n.toNat ≤ c∧u = .slice (some ⟨b,0,none⟩) 0 c∧D = [own T64 (.slice (some ⟨b,0,none⟩) n.toNat c) (Us (List.replicate n.toNat 0))]:=by
 refine Tr.enter env _ Tryz.func292 (by kernel_rfl) rfl Tryz.ntmps292 rfl (by repeat (first | exact has00 | refine has01 ?_)) fun w0=>?_
 repeat' first|refine capz ?_|refine lnz ?_|refine slnz ?_|(refine aw ?_;rw [show (0:Int) - 0 = 0 from rfl])|(refine aw ?_;rw [show n - 0 = n from Int.sub_zero n])|(refine apz (z:=Un 0) fun v' ho hf=>?_;obtain ⟨b,c,hv,hc⟩:=hf;subst hv;rw [Us_rep])|refine resl (hi:=0) ?_ (Nat.zero_le _)|(refine wo ?_;first|(refine ao ?_;first|refine oa ?_)|refine oa ?_)|(refine gc ?_;first|(refine ci (fun hB=>?_) (fun hB=>?_) <;> try (exfalso;omega)))|refine sq ?_|refine rg ?_|refine xc ?_|refine nl ?_|refine sk ?_|refine rt ?_
 exact r1 ⟨b,c,hc,rfl,rfl⟩
theorem room_tr (n:Int) (hn:0 ≤ n∧n ≤ 17592186044416):Tr Tryz.prog 273 [I n] [] [] fun u D=>u.oneCell' = true∧D = [own T64 u (Us (List.replicate n.toNat 0))]:=by
 by_cases h0:n = 0
 ·subst h0
  refine Tr.enter env _ Tryz.func273 (by kernel_rfl) rfl Tryz.ntmps273 rfl (by repeat (first | exact has00 | refine has01 ?_)) fun w0=>?_
  repeat' first|(refine gca ?_;first|(refine ca Grow0_tr ?_;rintro _ _ ⟨rfl,rfl⟩))|refine slnz ?_|(refine TO.im (own_nil T64 _) ?_;refine clr (a:=nS) (lo:=0) (hi:=0) (z:=Un 0) ?_ rfl)|(refine wo ?_;first|refine oa ?_)|refine sq ?_|refine rg ?_|refine xc ?_|refine nl ?_|refine rt ?_
  exact r1 ⟨rfl,rfl⟩
 ·refine Tr.enter env _ Tryz.func273 (by kernel_rfl) rfl Tryz.ntmps273 rfl (by repeat (first | exact has00 | refine has01 ?_)) fun w0=>?_
  repeat' first|(refine gca ?_;first|(refine ca (GrowP_tr n (by omega)) ?_;rintro _ _ ⟨b,c,hc,rfl,rfl⟩))|refine resl ?_ hc|(refine clr (a:=.slice (some ⟨b,0,none⟩) n.toNat c) (lo:=0) (hi:=n.toNat) (z:=Un 0) ?_ (by rw [show slSub (.slice (some ⟨b,0,none⟩) n.toNat c) 0 n.toNat = .slice (some ⟨b,0,none⟩) n.toNat c by simp only [slSub,Nat.sub_zero];split <;> simp [Addr_add0]];rfl) (hhi:=by simp);rw [show (Us (List.replicate n.toNat 0)).take 0 ++ List.replicate (n.toNat - 0) (Un 0) ++ (Us (List.replicate n.toNat 0)).drop n.toNat = Us (List.replicate n.toNat 0) by simp])|(refine wo ?_;first|refine oa ?_)|refine sq ?_|refine rg ?_|refine xc ?_|refine nl ?_|refine rt ?_
  exact r1 ⟨rfl,rfl⟩
end Go.Art
namespace Go.Art
open Go Go.Proofs Go.RowKit
abbrev Bo (l:List Bool):List Value:=l.map Value.bool
section
variable {P:Program} {E:Env P} {n:Sh} {X:Cx} {s:List K} {fr:Fr} {A A':List Ch} {ops:Array Oper} {rest:List Oper} {d:Nat} {ty t el:TypeId} {pos:String} {after:Array Edge} {z v:Value} {x y:Operand} {by_:Nat}
end
section
variable {P:Program} {E:Env P} {n:Sh} {X:Cx} {s:List K} {fr:Fr} {A A':List Ch} {ops:Array Oper} {rest:List Oper} {d:Nat} {ty t:TypeId} {pos:String} {after:Array Edge} {x y:Operand} {v u z:Value} {by_:Nat} {l news:List Int}
end
theorem lpt_at {A:List Ch} {w:World} {b:Nat} {cs:List Value} {T:TypeId} (h:lpt b cs T ∈ A) (hw:Sat A w):w.heap[b]? = some (.cells cs.toArray T (0,0)):=hw.h (lpt b cs T) h
end Go.Art
namespace Go.Art
open Go Go.Proofs Go.RowKit
section
variable {P:Program} {E:Env P} {n:Sh} {X:Cx} {s:List K} {fr:Fr} {A A':List Ch} {ops:Array Oper} {rest:List Oper} {d:Nat} {ty t t':TypeId} {pos:String} {after:Array Edge} {x y:Operand} {w:World} {p q:Int}
theorem mxx (k:TO E n X s ops rest ((d,I (max p q)) :: fr) A) (hx:ev fr x = some (I p):=by rfl) (hy:ev fr y = some (I q):=by rfl) (hd:Nat.blt d n.n = true:=by rfl):TO E n X s ops (⟨some d,.call ⟨.builtin .max,#[x,y],#[t,t']⟩,ty,pos,after,none⟩ :: rest) fr A:=TO.val (fun w _=>⟨fun a ha _ _ _ _=>by
 have e:(if q > p then q else p) = max p q:=by split <;> omega
 simp only [execOp,resolve]
 simp [ha.ev hx,ha.ev hy,invoke,builtin,Builtin.max_,Builtin.max2,← e]⟩) k hd
theorem mnn (k:TO E n X s ops rest ((d,I (min p q)) :: fr) A) (hx:ev fr x = some (I p):=by rfl) (hy:ev fr y = some (I q):=by rfl) (hd:Nat.blt d n.n = true:=by rfl):TO E n X s ops (⟨some d,.call ⟨.builtin .min,#[x,y],#[t,t']⟩,ty,pos,after,none⟩ :: rest) fr A:=TO.val (fun w _=>⟨fun a ha _ _ _ _=>by
 have e:(if q < p then q else p) = min p q:=by split <;> omega
 simp only [execOp,resolve]
 simp [ha.ev hx,ha.ev hy,invoke,builtin,Builtin.min_,Builtin.min2,← e]⟩) k hd
end
section
variable {P:Program} {E:Env P} {n:Sh} {X:Cx} {s:List K} {fr:Fr} {A A' D G:List Ch}
theorem mc1 {w0:World} {A0:List Ch} {cl:List Value} {T ct:TypeId} {dt:TypeDesc} {R':Value→List Ch→Prop} {fn:Func} {t1 nn Dm b:Nat} {v1:Value} (h:R' v1 D) (hr:fn.results = #[.cell t1 ct]:=by rfl) (ht:lk E.und ct = some dt:=by rfl) (hg:aggB dt = false:=by rfl)
  (hv:get fr t1 = some (ptr b):=by rfl) (hm:Tk (dfr Dm) A A':=by exact tkA) (hc:pt b (v1 :: cl) T ∈ A':=by exact memA) (hf:Fit A' D G:=by exact fitA) (nb:∀ c ∈ D,∀ b,¬ c.bd b:=by (repeat (first | exact nb0 | refine nb1 ?_));first | done | fail) :
  TX E ⟨nn,[mark Dm],none⟩ ⟨bodyPostM (FF none) 0 P fn (RetP (PR w0 A0 R')),w0,A0⟩ [] .ret fr A:=⟨fun w hw=>
 SX_retM rfl ((hw.im hm).mem (List.Mem.head _)) fun a ha w' hU=>⟨v1,res_c (E:=E) ha hr ht hg hv (by
  have h1:=hw.im hm
  have h2:St ⟨bodyPostM (FF none) 0 P fn (RetP (PR w0 A0 R')),w0,A0⟩ A' w':=h1.step (A:=[dfr Dm]) (B:=[]) (F:=A') (Mv.upd hU (fun b hb=>.inl (wrs_one.2 (List.mem_singleton.1 hb))) (fun b hb=>absurd hb wrs_nil) (fun b hb=>absurd hb rds_nil)) (Sat.nil _) (by simp)
  exact blk_cell (h2.mem hc) rfl),PR.mkM h hw hm hf nb hU⟩⟩
end
def cmpN (a b:Nat):Int:=if a < b then -1 else if b < a then 1 else 0
theorem cmpN_eq {a b:Nat}:cmpN a b = 0 ↔ a = b:=by unfold cmpN;split <;> (try split) <;> omega
theorem cmpN_lt {a b:Nat}:cmpN a b < 0 ↔ a < b:=by unfold cmpN;split <;> (try split) <;> omega
attribute [local irreducible] Fit pt own ro vw mpc lpt vels rels mow lrc dfr
theorem down_tr (v1 v2:Value) (h1:v1.oneCell' = true) (h2:v2.oneCell' = true):Tr Tryz.prog 207 [v1,v2] [] [] fun u D=>∃ c1 c2,u = .func (.func 250) #[] #[ptr c1,ptr c2]∧D = [pt c1 [v1] TN,pt c2 [v2] TN]:=by
 refine Tr.enter env _ Tryz.func207 (by kernel_rfl) rfl Tryz.ntmps207 rfl (by repeat (first | exact has00 | refine has01 ?_)) fun w0=>?_
 repeat' first|refine bx1 fun b=>?_|(refine wo ?_;first|refine oa ?_)|refine sq ?_|refine rg ?_|refine xc ?_|refine nl ?_|refine rt ?_
 exact r1 ⟨_,_,rfl,rfl⟩
abbrev TRi:TypeId:=3
def cmpL (l r Dm:Nat) (rec:Loop) (a b:Nat):List Ch:=if a = b then [lrc l rec .ready none,dfr Dm,pt r [I 0] TRi] else [lrc l rec .done (some .ret),dfr Dm,pt r [I (cmpN a b)] TRi]
theorem down1_tr (l Dm c1 c2 r:Nat) (rec:Loop) (v1 v2:Value) (a b:List Nat) (ha:Dg a) (hb:Dg b)
  (hE:∀ x y,x = y→Ty Tryz.prog l [Un x,Un y] [] [lrc l rec .ready none,dfr Dm,pt r [I 0] TRi] fun ok B=>ok = true∧B = [lrc l rec .ready none,dfr Dm,pt r [I 0] TRi])
  (hN:∀ x y,x ≠ y→Ty Tryz.prog l [Un x,Un y] [] [lrc l rec .ready none,dfr Dm,pt r [I 0] TRi] fun ok B=>ok = false∧B = [lrc l rec .done (some .ret),dfr Dm,pt r [I (cmpN x y)] TRi]) :
  Tr Tryz.prog 250 [yv l,ptr c1,ptr c2] [lpt c1 [v1] TN,lpt c2 [v2] TN,vw v1 (Us a),vw v2 (Us b)] [lrc l rec .ready none,dfr Dm,pt r [I 0] TRi] fun _ B=>B = cmpL l r Dm rec (nv a) (nv b):=by
 refine Tr.enter env _ Tryz.func250 (by kernel_rfl) rfl Tryz.ntmps250 rfl (by repeat (first | exact has00 | refine has01 ?_)) fun w0=>?_
 refine TC.lenu (v:=v1) (l:=a) fun hla=>?_
 refine TC.lenu (v:=v2) (l:=b) fun hlb=>?_
 repeat' first|refine mxx ?_|(refine wo ?_;first|(refine ao ?_;first|refine aw ?_)|refine oa ?_|refine ldl ?_|refine lnm ?_)|refine sq ?_|refine rg ?_|refine xc ?_|refine nl ?_|refine bk ?_
 refine TC.loop (ι:=Int) (fun k=>[(4,I k)]) (fun _=>[lrc l rec .ready none,dfr Dm,pt r [I 0] TRi]) (fun k=>-1 ≤ k∧k ≤ 9223372036854775807∧nv (a.drop (k + 1).toNat) = nv (b.drop (k + 1).toNat)) (fun k=>(k + 1).toNat) (max (a.length:Int) b.length - 1) [0,1,2] ⟨by omega,by omega,?_⟩ ?_
 ·rw [List.drop_eq_nil_of_le (by omega),List.drop_eq_nil_of_le (by omega)]
 ·rintro k ⟨hk1,hk2,hI⟩
  by_cases hk:0 ≤ k
  ·obtain ⟨j,rfl⟩ : ∃ j:Nat,k = j:=⟨k.toNat,by omega⟩
   have hk0:(j:Int).toNat = j:=Int.toNat_natCast j
   rw [show ((j:Int) + 1).toNat = j + 1 by omega] at hI
   have s1:=nv_step a j
   have s2:=nv_step b j
   rw [hI] at s1
   have hx:=ha.getD j
   have hy:=hb.getD j
   by_cases he:a.getD j 0 = b.getD j 0
   ·have hY:=hE _ _ he
    repeat' first|refine rs (fun w=>w.heap[c1]? = some (.cells [v1].toArray TN (0,0))∧w.heap[c2]? = some (.cells [v2].toArray TN (0,0))) ?_ (fun w hw=>⟨lpt_at memA hw,lpt_at memA hw⟩)|(refine wo ?_;first|(refine ao ?_;first|refine oa ?_)|refine oa ?_)|(refine gc ?_;first|refine ct ?_)|refine sq ?_|refine rg ?_|refine xc ?_|refine nl ?_|refine sk ?_|refine bk ?_
    refine tka 0 ?_
    refine tkl 1 (cs:=[v1]) (fun w h=>h.1) ?_
    refine tka 2 ?_
    refine tkl 4 (cs:=[v2]) (fun w h=>h.2) ?_
    refine tka 5 ?_
    refine t1 3 ?_
    refine ca (digit_tr v1 a _ (by omega)) ?_
    rw [hk0]
    rintro _ _ ⟨rfl,rfl⟩
    refine nl ?_
    refine te (fun w hw=>⟨lpt_at memA hw,lpt_at memA hw⟩) ?_
    refine t1 6 ?_
    refine ca (digit_tr v2 b _ (by omega)) ?_
    rw [hk0]
    rintro _ _ ⟨rfl,rfl⟩
    refine nl ?_
    refine te (fun w hw=>⟨lpt_at memA hw,lpt_at memA hw⟩) ?_
    refine t1 7 ?_
    refine cy hY ?_
    rintro _ _ ⟨rfl,rfl⟩
    refine nl ?_
    refine te (fun w hw=>⟨lpt_at memA hw,lpt_at memA hw⟩) ?_
    refine t1 8 ?_
    refine oa ?_
    refine nl ?_
    refine te (fun w hw=>⟨lpt_at memA hw,lpt_at memA hw⟩) ?_
    refine t0 ?_
    refine xc ?_
    repeat' first|(refine wo ?_;first|(refine ao ?_;first|refine aw ?_)|refine oa ?_)|(refine gc ?_;first|refine cf ?_)|refine rg ?_|refine xc ?_|refine nl ?_|refine sk ?_|refine xb ?_
    exact lp ((j:Int) - 1) ⟨by omega,by omega,by rw [show ((j:Int) - 1 + 1).toNat = j by omega,s1,s2,he]⟩
   ·have hY:=hN _ _ he
    have hc:∀ x y,x ≠ y→nv a ≠ nv b∧cmpN (nv a) (nv b) = cmpN x y∨¬ (x = a.getD j 0∧y = b.getD j 0):=by
     intro x y hxy
     by_cases hh:x = a.getD j 0∧y = b.getD j 0
     ·obtain ⟨rfl,rfl⟩:=hh
      rcases Nat.lt_or_gt_of_ne hxy with h | h
      ·have:=nv_lt_of (b:=b) ha j (by omega)
       exact .inl ⟨by omega,by unfold cmpN;rw [if_pos this,if_pos h]⟩
      ·have:=nv_lt_of (b:=a) hb j (by omega)
       exact .inl ⟨by omega,by unfold cmpN;rw [if_neg (by omega),if_pos this,if_neg (by omega),if_pos h]⟩
     ·exact .inr hh
    have hc2:=(hc _ _ he).resolve_right (fun h=>h ⟨rfl,rfl⟩)
    repeat' first|refine rs (fun w=>w.heap[c1]? = some (.cells [v1].toArray TN (0,0))∧w.heap[c2]? = some (.cells [v2].toArray TN (0,0))) ?_ (fun w hw=>⟨lpt_at memA hw,lpt_at memA hw⟩)|(refine wo ?_;first|(refine ao ?_;first|refine oa ?_)|refine oa ?_)|(refine gc ?_;first|refine ct ?_)|refine sq ?_|refine rg ?_|refine xc ?_|refine nl ?_|refine sk ?_|refine bk ?_
    refine tka 0 ?_
    refine tkl 1 (cs:=[v1]) (fun w h=>h.1) ?_
    refine tka 2 ?_
    refine tkl 4 (cs:=[v2]) (fun w h=>h.2) ?_
    refine tka 5 ?_
    refine t1 3 ?_
    refine ca (digit_tr v1 a _ (by omega)) ?_
    rw [hk0]
    rintro _ _ ⟨rfl,rfl⟩
    refine nl ?_
    refine te (fun w hw=>⟨lpt_at memA hw,lpt_at memA hw⟩) ?_
    refine t1 6 ?_
    refine ca (digit_tr v2 b _ (by omega)) ?_
    rw [hk0]
    rintro _ _ ⟨rfl,rfl⟩
    refine nl ?_
    refine te (fun w hw=>⟨lpt_at memA hw,lpt_at memA hw⟩) ?_
    refine t1 7 ?_
    refine cy hY ?_
    rintro _ _ ⟨rfl,rfl⟩
    refine nl ?_
    refine te (fun w hw=>⟨lpt_at memA hw,lpt_at memA hw⟩) ?_
    refine t1 8 ?_
    refine oa ?_
    refine nl ?_
    refine te (fun w hw=>⟨lpt_at memA hw,lpt_at memA hw⟩) ?_
    refine t0 ?_
    refine xc ?_
    repeat' first|(refine gc ?_;first|refine ct ?_)|refine rt ?_
    exact r0 (by rw [cmpL,if_neg hc2.1,hc2.2])
  ·repeat' first|(refine wo ?_;first|(refine ao ?_;first|refine oa ?_)|refine oa ?_)|(refine gc ?_;first|(refine ci (fun hB=>?_) (fun hB=>?_) <;> try (exfalso;omega)))|refine sq ?_|refine rg ?_|refine xc ?_|refine nl ?_|refine xe ?_
   exact e0 (D:=[lrc l rec .ready none,dfr Dm,pt r [I 0] TRi]) (by rw [show (k + 1).toNat = 0 by omega,List.drop_zero,List.drop_zero] at hI;rw [cmpL,if_pos hI])
theorem Cmp_tr (v1 v2:Value) (a b:List Nat) (ha:Dg a) (hb:Dg b):Tr Tryz.prog 154 [v1,v2] [vw v1 (Us a),vw v2 (Us b)] [] fun u D=>u = I (cmpN (nv a) (nv b))∧D = []:=by
 refine Tr.enterM env _ Tryz.func154 (by kernel_rfl) rfl Tryz.ntmps154 rfl (by repeat (first | exact has00 | refine has01 ?_)) fun w0=>?_
 refine TC.one (v:=v1) (xs:=Us a) fun h1=>?_
 refine TC.one (v:=v2) (xs:=Us b) fun h2=>?_
 repeat' first|(refine gca ?_;first|(refine ca (down_tr v1 v2 h1 h2) ?_;rintro _ _ ⟨c1,c2,rfl,rfl⟩))|refine al fun r=>?_|(refine wo ?_;first|refine oa ?_)|refine sq ?_|refine rg ?_|refine xc ?_|refine nl ?_|refine bk ?_
 refine TC.range [lpt c1 [v1] TN,lpt c2 [v2] TN,vw v1 (Us a),vw v2 (Us b)] [pt r [I 0] TRi]
  (fun l rec Dm pend B'=>if nv a = nv b then pend = none∧B' = [dfr Dm,pt r [I 0] TRi] else pend = some .ret∧B' = [dfr Dm,pt r [I (cmpN (nv a) (nv b))] TRi]) ?_ ?_
 ·intro rec l Dm hr
  refine (down1_tr l Dm c1 c2 r rec v1 v2 a b ha hb ?_ ?_).mono ?_
  ·rintro x _ rfl
   refine Ty.intro env hr has00 fun w1=>?_
   repeat' first|refine xbeg ?_|(refine wo ?_;first|(refine ao ?_;first|refine oa ?_)|refine oa ?_)|(refine gc ?_;first|(refine ci (fun hB=>?_) (fun hB=>?_) <;> try (exfalso;omega)))|refine sq ?_|refine rg ?_|refine xc ?_|refine nl ?_|refine sk ?_|refine bk ?_|refine xb ?_
   exact yn ⟨rfl,rfl⟩
  ·intro x y hxy
   by_cases h:x < y
   ·have hc:cmpN x y = -1:=by rw [cmpN,if_pos h]
    rw [hc]
    refine Ty.intro env hr has00 fun w1=>?_
    repeat' first|refine xbeg ?_|(refine wo ?_;first|(refine ao ?_;first|refine oa ?_)|refine oa ?_|refine sr ?_)|(refine gc ?_;first|(refine ci (fun hB=>?_) (fun hB=>?_) <;> try (exfalso;omega)))|refine sq ?_|refine rg ?_|refine xc ?_|refine nl ?_|refine bk ?_|refine rt ?_
    exact yr ⟨rfl,rfl⟩
   ·have hc:cmpN x y = 1:=by rw [cmpN,if_neg h,if_pos (by omega)]
    rw [hc]
    refine Ty.intro env hr has00 fun w1=>?_
    repeat' first|refine xbeg ?_|(refine wo ?_;first|(refine ao ?_;first|refine oa ?_)|refine oa ?_|refine sr ?_)|(refine gc ?_;first|(refine ci (fun hB=>?_) (fun hB=>?_) <;> try (exfalso;omega)))|refine sq ?_|refine rg ?_|refine xc ?_|refine nl ?_|refine bk ?_|refine rt ?_
    exact yr ⟨rfl,rfl⟩
  ·rintro v B rfl
   unfold cmpL
   by_cases h:nv a = nv b
   ·rw [if_pos h];exact ⟨_,_,_,rfl,by decide,by rw [if_pos h];exact ⟨rfl,rfl⟩⟩
   ·rw [if_neg h];exact ⟨_,_,_,rfl,by decide,by rw [if_neg h];exact ⟨rfl,rfl⟩⟩
 ·intro l rec Dm pend B' h
  by_cases hc:nv a = nv b
  ·rw [if_pos hc] at h
   obtain ⟨rfl,rfl⟩:=h
   show TX env _ _ _ _ _ _
   repeat' first|(refine wo ?_;first|refine sr ?_)|refine sq ?_|refine rg ?_|refine xc ?_|refine nl ?_|refine rt ?_|refine xb ?_
   exact mc1 (b:=r) (cl:=[]) (T:=TRi) (v1:=I 0) ⟨by rw [cmpN_eq.2 hc],rfl⟩
  ·rw [if_neg hc] at h
   obtain ⟨rfl,rfl⟩:=h
   show TC env _ _ _ _ _ _
   repeat' first|refine rt ?_
   exact mc1 (b:=r) (cl:=[]) (T:=TRi) ⟨rfl,rfl⟩
end Go.Art
namespace Go.Art
open Go Go.Proofs Go.RowKit
theorem getD_over {l:List Nat} {i:Nat} (h:l.length ≤ i):l.getD i 0 = 0:=by rw [List.getD_eq_getElem?_getD,List.getElem?_eq_none h];rfl
theorem nv_take_s (l:List Nat) (i:Nat):nv (l.take (i + 1)) = nv (l.take i) + 18446744073709551616 ^ i * l.getD i 0:=by
 by_cases h:i < l.length
 ·exact nv_take_succ l i h
 ·rw [getD_over (by omega),List.take_of_length_le (by omega),List.take_of_length_le (by omega)];simp
theorem nv_take_all {l:List Nat} {i:Nat} (h:l.length ≤ i):nv (l.take i) = nv l:=by rw [List.take_of_length_le h]
theorem getD_setN (l:List Nat) (i x:Nat) (h:i < l.length):(l.set i x).getD i 0 = x:=by simp [List.getD_eq_getElem?_getD,h]
theorem take_setN (l:List Nat) (i x:Nat):(l.set i x).take i = l.take i:=by rw [List.take_set,List.set_eq_of_length_le (by rw [List.length_take];omega)]
theorem nv_set_take (l:List Nat) (i x:Nat) (h:i < l.length):nv ((l.set i x).take (i + 1)) = nv (l.take i) + 18446744073709551616 ^ i * x:=by rw [nv_take_s,take_setN,getD_setN l i x h]
theorem add_step {p L M N x y c d e:Nat} (h:L + c * p = M + N) (hd:d + 18446744073709551616 * e = x + y + c):L + p * d + e * (p * 18446744073709551616) = M + p * x + (N + p * y):=by
 have:=congrArg (p * ·) hd
 simp only [Nat.mul_add] at this
 rw [show e * (p * 18446744073709551616) = p * (18446744073709551616 * e) by ac_rfl]
 rw [Nat.mul_comm c] at h
 omega
theorem sub_step {p L M N x y c d e:Nat} (h:L + N = M + c * p) (hd:d + y + c = x + e * 18446744073709551616):L + p * d + (N + p * y) = M + p * x + e * (p * 18446744073709551616):=by
 have:=congrArg (p * ·) hd
 simp only [Nat.mul_add] at this
 rw [show e * (p * 18446744073709551616) = p * (e * 18446744073709551616) by ac_rfl]
 rw [Nat.mul_comm c] at h
 omega
attribute [local irreducible] Fit pt own ro vw mpc lpt vels rels mow lrc dfr
theorem trim_own (v:Value) (l:List Nat) (hd:Dg l) {k:Nat} (h1:k ≤ l.length) (h2:nv (l.drop k) = 0) (h3:Tm (l.take k)) (A:List Ch):Im (own T64 v (Us l) :: A) (own T64 (slSub v 0 k) (Us (dg (nv l))) :: A):=by
 have hk:dg (nv l) = l.take k:=by rw [← dg_top hd h2,dg_nv (hd.take k) h3]
 rw [hk]
 exact Im1.im (im_take T64 v l h1) A
theorem digitN_tr (v:Value) (l:List Nat) (i:Nat):Tr Tryz.prog 251 [v,I i] [vw v (Us l)] [] fun u D=>u = Un (l.getD i 0)∧D = []:=digit_tr v l i (Int.natCast_nonneg i)
theorem NAdd_tr (v1 v2:Value) (a b:List Nat) (ha:Dg a) (hb:Dg b) (hla:a.length ≤ 1099511627776) (hlb:b.length ≤ 1099511627776):Tr Tryz.prog 229 [v1,v2] [vw v1 (Us a),vw v2 (Us b)] [] fun u D=>u.oneCell' = true∧D = [own T64 u (Us (dg (nv a + nv b)))]:=by
 obtain ⟨m,hm⟩ : ∃ m:Nat,max (a.length:Int) b.length + 1 = m:=⟨max a.length b.length + 1,by omega⟩
 refine Tr.enter env _ Tryz.func229 (by kernel_rfl) rfl Tryz.ntmps229 rfl (by repeat (first | exact has00 | refine has01 ?_)) fun w0=>?_
 repeat' first|(refine gca ?_;first|(refine ca (room_tr m (by omega)) ?_;rintro o _ ⟨ho,rfl⟩))|refine mxx ?_|(refine aw ?_;rw [hm])|(refine wo ?_;first|refine oa ?_|refine lnm ?_)|refine sq ?_|refine rg ?_|refine xc ?_|refine nl ?_|refine bk ?_
 rw [Int.toNat_natCast]
 refine TC.loop (ι:=Nat × Nat × List Nat) (fun k=>[(6,I k.1),(7,Un k.2.1)]) (fun k=>[own T64 o (Us k.2.2)]) (fun k=>k.2.2.length = m∧k.1 ≤ m∧k.2.1 ≤ 1∧Dg k.2.2∧nv (k.2.2.take k.1) + k.2.1 * 18446744073709551616 ^ k.1 = nv (a.take k.1) + nv (b.take k.1)) (fun k=>m - k.1) (0,0,List.replicate m 0) [0,1,5] ⟨by simp,by simp,by simp,Dg.rep _,by simp [nv]⟩ ?_
 rintro ⟨i,c,ys⟩ ⟨h1,h2,hc,hd,hI⟩
 dsimp only at h1 h2 hc hd hI ⊢
 have hk0:(i:Int).toNat = i:=Int.toNat_natCast i
 by_cases hi:i < m
 ·have hx:=ha.getD i
  have hy:=hb.getD i
  have hs:=add_step (p:=18446744073709551616 ^ i) (d:=(a.getD i 0 + b.getD i 0 + c) % 18446744073709551616) (e:=(a.getD i 0 + b.getD i 0 + c) / 18446744073709551616) hI (Nat.mod_add_div _ _)
  have hdl:(a.getD i 0 + b.getD i 0 + c) % 18446744073709551616 < 18446744073709551616:=Nat.mod_lt _ (by decide)
  have hel:(a.getD i 0 + b.getD i 0 + c) / 18446744073709551616 ≤ 1:=by omega
  repeat' first|(refine gca ?_;first|(refine ca (digitN_tr v1 a i) ?_;rintro _ _ ⟨rfl,rfl⟩)|(refine ca (digitN_tr v2 b i) ?_;rintro _ _ ⟨rfl,rfl⟩))|refine cadd hc ?_|(refine wo ?_;first|(refine ao ?_;first|refine aw ?_|refine oa ?_)|refine sou ?_|refine oa ?_|refine lnm ?_|refine ixmn ?_)|(refine gc ?_;first|(refine ci (fun hB=>?_) (fun hB=>?_) <;> try (exfalso;omega)))|refine sq ?_|refine rg ?_|refine xc ?_|refine nl ?_|refine sk ?_|refine bk ?_|refine xb ?_
  exact lp (i + 1,(a.getD i 0 + b.getD i 0 + c) / 18446744073709551616,ys.set i ((a.getD i 0 + b.getD i 0 + c) % 18446744073709551616)) ⟨by dsimp only;rw [List.length_set];exact h1,by dsimp only;omega,hel,hd.set hdl,by dsimp only;rw [nv_set_take _ _ _ (by omega),nv_take_s,nv_take_s,Nat.pow_succ];exact hs⟩
 ·obtain rfl:i = m:=by omega
  have hn:nv ys = nv a + nv b:=by
   rw [nv_take_all (by omega),nv_take_all (by omega),nv_take_all (by omega)] at hI
   have b1:=nv_lt ha
   have b2:=nv_lt hb
   have b3:18446744073709551616 ^ a.length ≤ 18446744073709551616 ^ (i - 1):=Nat.pow_le_pow_right (by decide) (by omega)
   have b4:18446744073709551616 ^ b.length ≤ 18446744073709551616 ^ (i - 1):=Nat.pow_le_pow_right (by decide) (by omega)
   have b5:18446744073709551616 ^ i = 18446744073709551616 ^ (i - 1) * 18446744073709551616:=by rw [← Nat.pow_succ];congr 1;omega
   rcases Nat.eq_zero_or_pos c with rfl | hp
   ·omega
   ·obtain rfl:c = 1:=by omega
    rw [b5] at hI
    omega
  rw [← hn]
  repeat' first|(refine gca ?_;first|(refine ca (trimmed_tr o ys) ?_;rintro _ _ ⟨⟨k,g1,rfl,g2,g3⟩,rfl⟩;refine TO.im (trim_own o ys hd g1 g2 g3 _) ?_)|(refine ca (NClip_tr _ _) ?_;rintro u _ ⟨hu,rfl⟩))|(refine wo ?_;first|(refine ao ?_;first|refine oa ?_)|refine oa ?_|refine lnm ?_)|(refine gc ?_;first|(refine ci (fun hB=>?_) (fun hB=>?_) <;> try (exfalso;omega)))|refine sq ?_|refine rg ?_|refine xc ?_|refine nl ?_|refine xe ?_|refine rt ?_
  exact r1 ⟨hu,rfl⟩
theorem NSub_tr (v1 v2:Value) (a b:List Nat) (ha:Dg a) (hb:Dg b) (hla:a.length ≤ 1099511627776) (hlb:b.length ≤ 1099511627776) (hle:nv b ≤ nv a):Tr Tryz.prog 230 [v1,v2] [vw v1 (Us a),vw v2 (Us b)] [] fun u D=>∃ o,u = tup2 o (I 0)∧o.oneCell' = true∧D = [own T64 o (Us (dg (nv a - nv b)))]:=by
 have hcm:¬ cmpN (nv a) (nv b) < 0:=by rw [cmpN_lt];omega
 refine Tr.enter env _ Tryz.func230 (by kernel_rfl) rfl Tryz.ntmps230 rfl (by repeat (first | exact has00 | refine has01 ?_)) fun w0=>?_
 repeat' first|(refine gca ?_;first|(refine ca (Cmp_tr v1 v2 a b ha hb) ?_;rintro _ _ ⟨rfl,rfl⟩)|(refine ca (room_tr (a.length:Int) (by omega)) ?_;rintro o _ ⟨ho,rfl⟩))|(refine wo ?_;first|(refine ao ?_;first|refine oa ?_)|refine oa ?_|refine lnm ?_)|(refine gc ?_;first|(refine ci (fun hB=>?_) (fun hB=>?_) <;> try (exfalso;omega)))|refine sq ?_|refine rg ?_|refine xc ?_|refine nl ?_|refine sk ?_|refine bk ?_
 rw [Int.toNat_natCast]
 refine TC.loop (ι:=Nat × Nat × List Nat) (fun k=>[(7,I k.1),(8,Un k.2.1)]) (fun k=>[own T64 o (Us k.2.2)]) (fun k=>k.2.2.length = a.length∧k.1 ≤ a.length∧k.2.1 ≤ 1∧Dg k.2.2∧nv (k.2.2.take k.1) + nv (b.take k.1) = nv (a.take k.1) + k.2.1 * 18446744073709551616 ^ k.1) (fun k=>a.length - k.1) (0,0,List.replicate a.length 0) [0,1,6] ⟨by simp,by simp,by simp,Dg.rep _,by simp [nv]⟩ ?_
 rintro ⟨i,c,ys⟩ ⟨h1,h2,hc,hd,hI⟩
 dsimp only at h1 h2 hc hd hI ⊢
 by_cases hi:i < a.length
 ·have hx:=ha.getD i
  have hy:=hb.getD i
  have hs:=sub_step (p:=18446744073709551616 ^ i) (d:=(a.getD i 0 + 18446744073709551616 - b.getD i 0 - c) % 18446744073709551616) (x:=a.getD i 0) (y:=b.getD i 0) (e:=if a.getD i 0 < b.getD i 0 + c then 1 else 0) hI (by split <;> omega)
  have hdl:(a.getD i 0 + 18446744073709551616 - b.getD i 0 - c) % 18446744073709551616 < 18446744073709551616:=Nat.mod_lt _ (by decide)
  have hel:(if a.getD i 0 < b.getD i 0 + c then 1 else 0) ≤ 1:=by split <;> omega
  repeat' first|refine rs (fun w=>Sl w v1 (Us a)) ?_ (fun w hw=>vw_sl (hw.h (vw v1 (Us a)) memA))|(refine wo ?_;first|(refine ao ?_;first|refine oa ?_)|refine oa ?_|refine lnm ?_)|(refine gc ?_;first|(refine ci (fun hB=>?_) (fun hB=>?_) <;> try (exfalso;omega)))|refine sq ?_|refine rg ?_|refine xc ?_|refine nl ?_|refine sk ?_|refine bk ?_
  refine tka 0 ?_
  refine tka 1 ?_
  refine tka 2 ?_
  refine tka 3 ?_
  refine tk 4 (v:=.pointer (some (addrAt v1 i))) (fun w h=>R_idx (E:=env) (i:=(i:Int)) rfl rfl rfl rfl h ⟨Int.natCast_nonneg i,by rw [Us_len];omega⟩) ?_
  refine tk 5 (v:=Un (a.getD i 0)) (fun w h=>R_load (E:=env) rfl rfl rfl (h.cell (Us_get a i hi))) ?_
  refine tka 6 ?_
  refine tka 7 ?_
  refine tka 9 ?_
  refine t1 8 ?_
  refine ca (digitN_tr v2 b i) ?_
  rintro _ _ ⟨rfl,rfl⟩
  refine nl ?_
  refine te (fun w hw=>vw_sl (hw.h (vw v1 (Us a)) memA)) ?_
  refine t1 10 ?_
  refine csub hc ?_
  refine nl ?_
  refine te (fun w hw=>vw_sl (hw.h (vw v1 (Us a)) memA)) ?_
  refine tka 11 ?_
  refine tka 12 ?_
  refine tka 13 ?_
  refine t1 14 ?_
  refine ixmn ?_
  refine nl ?_
  refine te (fun w hw=>vw_sl (hw.h (vw v1 (Us a)) memA)) ?_
  refine t1 15 ?_
  refine sou ?_
  refine nl ?_
  refine te (fun w hw=>vw_sl (hw.h (vw v1 (Us a)) memA)) ?_
  refine tka 16 ?_
  refine t0 ?_
  repeat' first|(refine wo ?_;first|(refine ao ?_;first|refine aw ?_)|refine oa ?_)|refine rg ?_|refine xc ?_|refine nl ?_|refine xb ?_
  exact lp (i + 1,(if a.getD i 0 < b.getD i 0 + c then 1 else 0),ys.set i ((a.getD i 0 + 18446744073709551616 - b.getD i 0 - c) % 18446744073709551616)) ⟨by dsimp only;rw [List.length_set];exact h1,by dsimp only;omega,hel,hd.set hdl,by dsimp only;rw [nv_set_take _ _ _ (by omega),nv_take_s,nv_take_s,Nat.pow_succ];exact hs⟩
 ·obtain rfl:i = a.length:=by omega
  have hn:nv ys = nv a - nv b:=by
   rw [nv_take_all (by omega),nv_take_all (Nat.le_refl _)] at hI
   have b1:=nv_lt ha
   have b2:=nv_lt hd
   have b3:=nv_cut b a.length
   rw [h1] at b2
   rcases Nat.eq_zero_or_pos (nv (b.drop a.length)) with h0 | hp
   ·rw [h0] at b3
    rcases Nat.eq_zero_or_pos c with rfl | hp
    ·omega
    ·obtain rfl:c = 1:=by omega
     omega
   ·have:=Nat.mul_le_mul_left (18446744073709551616 ^ a.length) hp
    omega
  rw [← hn]
  repeat' first|(refine gca ?_;first|(refine ca (trimmed_tr o ys) ?_;rintro _ _ ⟨⟨k,g1,rfl,g2,g3⟩,rfl⟩;refine TO.im (trim_own o ys hd g1 g2 g3 _) ?_)|(refine ca (NClip_tr _ _) ?_;rintro u _ ⟨hu,rfl⟩))|(refine wo ?_;first|(refine ao ?_;first|refine oa ?_)|refine oa ?_|refine lnm ?_)|(refine gc ?_;first|(refine ci (fun hB=>?_) (fun hB=>?_) <;> try (exfalso;omega)))|refine sq ?_|refine rg ?_|refine xc ?_|refine nl ?_|refine xe ?_|refine rt ?_
  exact r2 ⟨u,rfl,hu,rfl⟩
theorem NSub0_tr (v1 v2:Value) (a b:List Nat) (ha:Dg a) (hb:Dg b) (hlt:nv a < nv b):Tr Tryz.prog 230 [v1,v2] [vw v1 (Us a),vw v2 (Us b)] [] fun u D=>u = tup2 nS (I 3)∧D = []:=by
 have hcm:cmpN (nv a) (nv b) < 0:=cmpN_lt.2 hlt
 refine Tr.enter env _ Tryz.func230 (by kernel_rfl) rfl Tryz.ntmps230 rfl (by repeat (first | exact has00 | refine has01 ?_)) fun w0=>?_
 repeat' first|(refine gca ?_;first|(refine ca (Cmp_tr v1 v2 a b ha hb) ?_;rintro _ _ ⟨rfl,rfl⟩))|(refine wo ?_;first|(refine ao ?_;first|refine oa ?_)|refine oa ?_)|(refine gc ?_;first|(refine ci (fun hB=>?_) (fun hB=>?_) <;> try (exfalso;omega)))|refine sq ?_|refine rg ?_|refine xc ?_|refine nl ?_|refine rt ?_
 exact r2 ⟨rfl,rfl⟩
end Go.Art
namespace Go.Art
open Go Go.Proofs Go.RowKit
theorem bitLen_bounds (y:Nat) (h:y < 18446744073709551616) (h0:y ≠ 0):1 ≤ Lib.bitLen y∧2 ^ (Lib.bitLen y - 1) ≤ y∧y < 2 ^ Lib.bitLen y:=Lib.bitLenAux_bounds 64 y (by omega) h0
theorem bitLen_le64 (y:Nat) (h:y < 18446744073709551616):Lib.bitLen y ≤ 64:=Lib.bitLen_le y 64 (Nat.le_refl _) h
theorem lz_ex (y:Nat) (h:y < 18446744073709551616) (h0:y ≠ 0):∃ s:Nat,s ≤ 63∧64 - (Lib.bitLen y:Int) = (s:Int)∧9223372036854775808 ≤ y * 2 ^ s∧y * 2 ^ s < 18446744073709551616:=by
 obtain ⟨h1,h2,h3⟩:=bitLen_bounds y h h0
 have h4:=bitLen_le64 y h
 refine ⟨64 - Lib.bitLen y,by omega,by omega,?_,?_⟩
 ·have e:2 ^ (Lib.bitLen y - 1) * 2 ^ (64 - Lib.bitLen y) = 9223372036854775808:=by
   rw [← Nat.pow_add,show Lib.bitLen y - 1 + (64 - Lib.bitLen y) = 63 by omega]
  rw [← e];exact Nat.mul_le_mul_right _ h2
 ·have e:2 ^ Lib.bitLen y * 2 ^ (64 - Lib.bitLen y) = 18446744073709551616:=by
   rw [← Nat.pow_add,show Lib.bitLen y + (64 - Lib.bitLen y) = 64 by omega]
  rw [← e];exact Nat.mul_lt_mul_of_pos_right h3 (Nat.pow_pos (by decide))
theorem pow_split {s:Nat} (hs:s ≤ 64):2 ^ (64 - s) * 2 ^ s = 18446744073709551616:=by rw [← Nat.pow_add,show 64 - s + s = 64 by omega]
theorem d64 {h l y s:Nat} (hs:s ≤ 63) (hl:l < 18446744073709551616) (hh:h < y) (hy:y * 2 ^ s < 18446744073709551616) :
  h * 2 ^ s < 18446744073709551616∧l / 2 ^ (64 - s) < 2 ^ s∧h * 2 ^ s + l / 2 ^ (64 - s) < y * 2 ^ s∧(h * 18446744073709551616 + l) * 2 ^ s = (h * 2 ^ s + l / 2 ^ (64 - s)) * 18446744073709551616 + l * 2 ^ s % 18446744073709551616:=by
 have hp:0 < 2 ^ s:=Nat.pow_pos (by decide)
 have hsp:=pow_split (s:=s) (by omega)
 have h1:h * 2 ^ s < y * 2 ^ s:=Nat.mul_lt_mul_of_pos_right hh hp
 have h2:l / 2 ^ (64 - s) < 2 ^ s:=Nat.div_lt_of_lt_mul (by rw [hsp];exact hl)
 have h3:(h + 1) * 2 ^ s ≤ y * 2 ^ s:=Nat.mul_le_mul_right _ hh
 have h4:l * 2 ^ s / 18446744073709551616 = l / 2 ^ (64 - s):=by rw [← hsp];exact Nat.mul_div_mul_right _ _ hp
 have h5:=Nat.div_add_mod (l * 2 ^ s) 18446744073709551616
 rw [h4] at h5
 generalize l / 2 ^ (64 - s) = q at *
 generalize l * 2 ^ s % 18446744073709551616 = r at *
 rw [Nat.add_mul] at h3
 refine ⟨by omega,h2,by omega,?_⟩
 rw [Nat.add_mul,← h5,Nat.add_mul,Nat.mul_right_comm];omega
def div64 (h l y:Nat):Value:=.tuple #[Un ((h * 18446744073709551616 + l) / y),Un ((h * 18446744073709551616 + l) % y)]
attribute [local irreducible] Fit pt own ro vw mpc lpt vels rels mow lrc dfr
theorem Div64_low (l y:Nat) (hl:l < 18446744073709551616) (hy:y < 18446744073709551616) (hh:0 < y):Tr Tryz.prog 239 [Un 0,Un l,Un y] [] [] fun v D=>v = .tuple #[Un (l / y),Un (l % y)]∧D = []:=by
 refine Tr.enter env _ Tryz.func239 (by kernel_rfl) rfl Tryz.ntmps239 rfl (by repeat (first | exact has00 | refine has01 ?_)) fun w0=>?_
 repeat' first|(refine wo ?_;first|(refine ao ?_;first|refine oa ?_)|refine oa ?_)|(refine gc ?_;first|refine ct ?_|(refine ci (fun hB=>?_) (fun hB=>?_) <;> try (exfalso;omega)))|refine sq ?_|refine rg ?_|refine xc ?_|refine nl ?_|refine sk ?_|refine rt ?_|refine rq ?_|refine nq ?_|(refine wq ?_;first|(refine qao ?_;first|(refine qnao ?_;first|refine qnqu ?_|refine qnrm ?_))|refine qa ?_)
 exact r2 ⟨rfl,rfl⟩
set_option maxHeartbeats 4000000 in
set_option maxRecDepth 10000 in
theorem Div64_walk (h l y s V H L U w1 n1 n0 u1 u0 q0 r0 m0 Q1 a1 U2 p0 t0 r2' m2 m3 Q2 a2 U3 R:Nat) (h0:h ≠ 0) (hs:s ≤ 63) (hl:l < 18446744073709551616) (hy:y < 18446744073709551616) (hh:h < y) (hse:64 - (Lib.bitLen y:Int) = (s:Int))
  (eV:y * 2 ^ (min (Int.toNat (s:Int)) 64) % 18446744073709551616 = V) (eN1:V / 2 ^ (min (Int.toNat 32) 64) = n1) (eN0:V % 4294967296 = n0) (eH:h * 2 ^ (min (Int.toNat (s:Int)) 64) % 18446744073709551616 = H) (eL:l / 2 ^ (min (Int.toNat ((64 - s:Nat):Int)) 64) = L) (eU:H ||| L = U)
  (eW:l * 2 ^ (min (Int.toNat (s:Int)) 64) % 18446744073709551616 = w1) (eU1:w1 / 2 ^ (min (Int.toNat 32) 64) = u1) (eU0:w1 % 4294967296 = u0) (bV:V < 18446744073709551616) (bH:H < 18446744073709551616) (bL:L < 18446744073709551616) (bU:U < 18446744073709551616) (bW:w1 < 18446744073709551616)
  (eQ:U / n1 = q0) (eM:q0 * n1 % 18446744073709551616 = m0) (bM:m0 < 18446744073709551616) (eR:(U + 18446744073709551616 - m0) % 18446744073709551616 = r0) (f1:Hf n1 n0 U u1 q0 r0)
  (d1:∀ q r,Hf n1 n0 U u1 q r→(q < 4294967296∧q * n0 ≤ 4294967296 * r + u1)→q = Q1) (b1:∀ q r,Hf n1 n0 U u1 q r→¬ (q < 4294967296∧q * n0 ≤ 4294967296 * r + u1)→¬ r + n1 < 4294967296→q - 1 = Q1)
  (bQ1:Q1 < 4294967296) (eA:U * 4294967296 % 18446744073709551616 = a1) (eA2:Q1 * V % 18446744073709551616 = m2) (bM2:m2 < 18446744073709551616) (eU2:(a1 + u1 + 18446744073709551616 - m2) % 18446744073709551616 = U2) (bU2:U2 < 18446744073709551616)
  (eP:U2 / n1 = p0) (eT:p0 * n1 % 18446744073709551616 = t0) (bT:t0 < 18446744073709551616) (eS:(U2 + 18446744073709551616 - t0) % 18446744073709551616 = r2') (f2:Hf n1 n0 U2 u0 p0 r2')
  (d2:∀ q r,Hf n1 n0 U2 u0 q r→(q < 4294967296∧q * n0 ≤ 4294967296 * r + u0)→q = Q2) (b2:∀ q r,Hf n1 n0 U2 u0 q r→¬ (q < 4294967296∧q * n0 ≤ 4294967296 * r + u0)→¬ r + n1 < 4294967296→q - 1 = Q2)
  (bQ2:Q2 < 4294967296) (eB:U2 * 4294967296 % 18446744073709551616 = a2) (eB2:Q2 * V % 18446744073709551616 = m3) (bM3:m3 < 18446744073709551616) (eU3:(a2 + u0 + 18446744073709551616 - m3) % 18446744073709551616 = U3) (eR3:U3 / 2 ^ (min (Int.toNat (s:Int)) 64) = R) :
  Tr Tryz.prog 239 [Un h,Un l,Un y] [] [] fun v D=>v = .tuple #[Un (Q1 * 4294967296 + Q2),Un R]∧D = []:=by
 have n1a:=f1.n1a
 have n1b:=f1.n1b
 have n0b:=f1.n0b
 have u1b:=f1.u1b
 have u0b:=f2.u1b
 refine Tr.enter env _ Tryz.func239 (by kernel_rfl) rfl Tryz.ntmps239 rfl (by repeat (first | exact has00 | refine has01 ?_)) fun w0=>?_
 repeat' first|(refine gca ?_;first|(refine ca (LZ64_tr y hy) ?_;rintro _ _ ⟨rfl,rfl⟩;rw [hse]))|(refine ao ?_;first | refine nsle eV ?_ | refine nsre eN1 ?_ | refine nmke eN0 ?_ | refine nsle eH ?_ | refine nsre eL ?_ | refine nore eU ?_ | refine nsle eW ?_ | refine nsre eU1 ?_ | refine nmke eU0 ?_ | refine nque eQ ?_ | refine nmle eM ?_ | refine nsbe eR ?_)|refine sq_cutX (a:=.block 0 _) (ι:=Value) (fun v=>v = Un Q1) (fun v=>[(2,Un V),(8,Un s),(9,Un n1),(10,Un n0),(11,Un U),(13,Un u1),(14,Un u0),(15,v)]) (fun _=>[]) ?_ (fun kb=>?_)|(refine wo ?_;first|(refine ao ?_;first|(refine nao ?_;first|refine nsb ?_)|(refine naou ?_;first|refine nsb ?_)|refine oa ?_)|refine ntu ?_|refine oa ?_)|(refine gc ?_;first|(refine ci (fun hB=>?_) (fun hB=>?_) <;> try (exfalso;omega)))|refine sq ?_|refine rg ?_|refine xc ?_|refine nl ?_|refine sk ?_|refine bk ?_
 ·rintro _ rfl
  clear eV eN1 eN0 eH eL eU eW eU1 eU0 eQ eM eR f1 d1 b1 hse
  repeat' first|(refine ao ?_;first | refine nmle eA ?_ | refine nmle eA2 ?_ | refine nsbe eU2 ?_ | refine nque eP ?_ | refine nmle eT ?_ | refine nsbe eS ?_)|refine sq_cutX (a:=.block 2 _) (ι:=Value) (fun v=>v = Un Q2) (fun v=>[(2,Un V),(8,Un s),(17,Un U2),(14,Un u0),(15,Un Q1),(18,v)]) (fun _=>[]) ?_ (fun kb=>?_)|(refine wo ?_;first|(refine ao ?_;first|(refine nao ?_;first|refine nad ?_)|(refine naou ?_;first|refine nad ?_))|refine oa ?_)|refine sq ?_|refine rg ?_|refine xc ?_|refine nl ?_|refine bk ?_
  ·rintro _ rfl
   clear eA eA2 eU2 eP eT eS f2 d2 b2
   repeat' first|(refine ao ?_;first | refine nmle eB ?_ | refine nmle eB2 ?_ | refine nsbe eU3 ?_ | refine nsre eR3 ?_)|(refine wo ?_;first|(refine ao ?_;first|(refine nao ?_;first|refine nad ?_|refine nml ?_)|(refine naou ?_;first|refine nad ?_|refine nml ?_))|refine oa ?_)|refine sq ?_|refine rg ?_|refine xc ?_|refine nl ?_|refine rt ?_
   exact r2 ⟨rfl,rfl⟩
  ·clear eA eA2 eU2 eP eT eS eB eB2 eU3 eR3
   repeat' first|(refine wo ?_;first|(refine ao ?_;first|(refine nao ?_;first|refine nmk ?_|refine nad ?_|refine nsb ?_|refine nml ?_|refine nadm ?_|refine nsbm ?_|refine nmlm ?_|refine nor ?_|refine nsl ?_|refine nsr ?_|refine nqu ?_|refine nrm ?_)|(refine naou ?_;first|refine nmk ?_|refine nad ?_|refine nsb ?_|refine nml ?_|refine nadm ?_|refine nsbm ?_|refine nmlm ?_|refine nor ?_|refine nsl ?_|refine nsr ?_|refine nqu ?_|refine nrm ?_)|refine aw ?_|refine aw6 ?_|refine oa ?_|refine adiv ?_|refine amod ?_|refine shr1 ?_|refine shr ?_|refine umod ?_|refine isl ?_|refine ipe ?_|refine ipn ?_|refine ibe ?_)|refine lu ?_|refine sou ?_|refine ntu ?_|refine acw ?_|refine ucv ?_|refine anw ?_|refine oa ?_|refine ld ?_|refine ldl ?_|refine lnm ?_|refine ixmn ?_|refine ixm ?_|refine li ?_|refine lb ?_|refine lv ?_|refine ln ?_|refine ixn ?_|refine ix ?_|refine le ?_|refine sr ?_|refine soi ?_|refine sob ?_|refine scm ?_|refine sclm ?_|refine schm ?_|refine gy ?_|refine gn ?_|refine gnn ?_|refine gu ?_|(refine gsi (fun hB=>?_) (fun hB=>?_) <;> try (exfalso;omega))|(refine gsn (fun hB=>?_) (fun hB=>?_) <;> try (exfalso;omega))|(refine gs (fun hB=>?_) (fun hB=>?_) <;> try (exfalso;omega)))|(refine gc ?_;first|refine ct ?_|refine cf ?_|(refine ci (fun hB=>?_) (fun hB=>?_) <;> try (exfalso;omega))|(refine cn (fun hB=>?_) (fun hB=>?_) <;> try (exfalso;omega))|(refine cb (fun hB=>?_) (fun hB=>?_) <;> try (exfalso;omega)))|refine sq ?_|refine rg ?_|refine xc ?_|refine nl ?_|refine sk ?_|refine bk ?_|refine xe ?_|refine rt ?_|refine xb ?_
   refine TC.loop (ι:=Nat × Nat) (fun i=>[(18,Un i.1),(16,Un i.2)]) (fun _=>[]) (fun i=>Hf n1 n0 U2 u0 i.1 i.2) (fun i=>i.1) (p0,r2') [2,8,9,10,14,15,17] f2 ?_
   rintro ⟨q,r⟩ hI
   dsimp only at hI ⊢
   have hqn:=hI.mulb
   have hq0:1 ≤ q∨q * n0 = 0:=by
    rcases Nat.eq_zero_or_pos q with h | h
    ·exact .inr (by rw [h,Nat.zero_mul])
    ·exact .inl h
   have hr:=hI.r2
   have hq2:=hI.q2
   repeat' first|exact kb (Un q) (by rw [d2 q r hI (by omega)]) _ _ (by (repeat (refine Sub.cons rfl (by first | rfl | go_num) ?_));exact Sub.nil) fitA|exact kb (Un (q - 1)) (by rw [b2 q r hI (by omega) (by omega)]) _ _ (by (repeat (refine Sub.cons rfl (by first | rfl | go_num) ?_));exact Sub.nil) fitA|exact lp (q - 1,r + n1) (hI.next (by omega) (by omega)) (hlt:=by have:=hI.less (by omega);dsimp only;omega)|(refine wo ?_;first|(refine ao ?_;first|(refine nao ?_;first|refine nad ?_|refine nsb ?_|refine nml ?_)|(refine naou ?_;first|refine nad ?_|refine nsb ?_|refine nml ?_)|refine oa ?_)|refine oa ?_|refine gy ?_|refine gn ?_|(refine gsi (fun hB=>?_) (fun hB=>?_) <;> try (exfalso;omega)))|(refine gc ?_;first|refine ct ?_|(refine ci (fun hB=>?_) (fun hB=>?_) <;> try (exfalso;omega)))|refine sq ?_|refine rg ?_|refine xc ?_|refine nl ?_|refine sk ?_|refine bk ?_|refine xe ?_|refine xb ?_
 ·clear eV eN1 eN0 eH eL eU eW eU1 eU0 eQ eM eR eA eA2 eU2 eP eT eS f2 d2 b2 eB eB2 eU3 eR3 hse
  repeat' first|(refine wo ?_;first|(refine ao ?_;first|(refine nao ?_;first|refine nmk ?_|refine nad ?_|refine nsb ?_|refine nml ?_|refine nadm ?_|refine nsbm ?_|refine nmlm ?_|refine nor ?_|refine nsl ?_|refine nsr ?_|refine nqu ?_|refine nrm ?_)|(refine naou ?_;first|refine nmk ?_|refine nad ?_|refine nsb ?_|refine nml ?_|refine nadm ?_|refine nsbm ?_|refine nmlm ?_|refine nor ?_|refine nsl ?_|refine nsr ?_|refine nqu ?_|refine nrm ?_)|refine aw ?_|refine aw6 ?_|refine oa ?_|refine adiv ?_|refine amod ?_|refine shr1 ?_|refine shr ?_|refine umod ?_|refine isl ?_|refine ipe ?_|refine ipn ?_|refine ibe ?_)|refine lu ?_|refine sou ?_|refine ntu ?_|refine acw ?_|refine ucv ?_|refine anw ?_|refine oa ?_|refine ld ?_|refine ldl ?_|refine lnm ?_|refine ixmn ?_|refine ixm ?_|refine li ?_|refine lb ?_|refine lv ?_|refine ln ?_|refine ixn ?_|refine ix ?_|refine le ?_|refine sr ?_|refine soi ?_|refine sob ?_|refine scm ?_|refine sclm ?_|refine schm ?_|refine gy ?_|refine gn ?_|refine gnn ?_|refine gu ?_|(refine gsi (fun hB=>?_) (fun hB=>?_) <;> try (exfalso;omega))|(refine gsn (fun hB=>?_) (fun hB=>?_) <;> try (exfalso;omega))|(refine gs (fun hB=>?_) (fun hB=>?_) <;> try (exfalso;omega)))|(refine gc ?_;first|refine ct ?_|refine cf ?_|(refine ci (fun hB=>?_) (fun hB=>?_) <;> try (exfalso;omega))|(refine cn (fun hB=>?_) (fun hB=>?_) <;> try (exfalso;omega))|(refine cb (fun hB=>?_) (fun hB=>?_) <;> try (exfalso;omega)))|refine sq ?_|refine rg ?_|refine xc ?_|refine nl ?_|refine sk ?_|refine bk ?_|refine xe ?_|refine rt ?_|refine xb ?_
  refine TC.loop (ι:=Nat × Nat) (fun i=>[(15,Un i.1),(16,Un i.2)]) (fun _=>[]) (fun i=>Hf n1 n0 U u1 i.1 i.2) (fun i=>i.1) (q0,r0) [2,8,9,10,11,13,14] f1 ?_
  rintro ⟨q,r⟩ hI
  dsimp only at hI ⊢
  have hqn:=hI.mulb
  have hq0:1 ≤ q∨q * n0 = 0:=by
   rcases Nat.eq_zero_or_pos q with h | h
   ·exact .inr (by rw [h,Nat.zero_mul])
   ·exact .inl h
  have hr:=hI.r2
  have hq2:=hI.q2
  repeat' first|exact kb (Un q) (by rw [d1 q r hI (by omega)]) _ _ (by (repeat (refine Sub.cons rfl (by first | rfl | go_num) ?_));exact Sub.nil) fitA|exact kb (Un (q - 1)) (by rw [b1 q r hI (by omega) (by omega)]) _ _ (by (repeat (refine Sub.cons rfl (by first | rfl | go_num) ?_));exact Sub.nil) fitA|exact lp (q - 1,r + n1) (hI.next (by omega) (by omega)) (hlt:=by have:=hI.less (by omega);dsimp only;omega)|(refine wo ?_;first|(refine ao ?_;first|(refine nao ?_;first|refine nad ?_|refine nsb ?_|refine nml ?_)|(refine naou ?_;first|refine nad ?_|refine nsb ?_|refine nml ?_)|refine oa ?_)|refine oa ?_|refine gy ?_|refine gn ?_|(refine gsi (fun hB=>?_) (fun hB=>?_) <;> try (exfalso;omega)))|(refine gc ?_;first|refine ct ?_|(refine ci (fun hB=>?_) (fun hB=>?_) <;> try (exfalso;omega)))|refine sq ?_|refine rg ?_|refine xc ?_|refine nl ?_|refine sk ?_|refine bk ?_|refine xe ?_|refine xb ?_
end Go.Art
namespace Go.Art
open Go Go.Proofs Go.RowKit
theorem sub_word {u z r:Nat} (h:z + r = u) (hu:u < 18446744073709551616):(u + 18446744073709551616 - z) % 18446744073709551616 = r:=by omega
theorem two_word {u u1 z r:Nat} (h:z + r = u * 4294967296 + u1) (hr:r < 18446744073709551616):(u * 4294967296 % 18446744073709551616 + u1 + 18446744073709551616 - z % 18446744073709551616) % 18446744073709551616 = r:=by omega
theorem half_facts {n1 n0 u u1:Nat} (n1a:2147483648 ≤ n1) (n1b:n1 < 4294967296) (n0b:n0 < 4294967296) (u1b:u1 < 4294967296) (ub:u < n1 * 4294967296 + n0) :
  ∃ q0 r0 m0 Q a m U2,u / n1 = q0∧q0 * n1 % 18446744073709551616 = m0∧m0 < 18446744073709551616∧(u + 18446744073709551616 - m0) % 18446744073709551616 = r0∧Hf n1 n0 u u1 q0 r0 ∧
   (∀ q r,Hf n1 n0 u u1 q r→(q < 4294967296∧q * n0 ≤ 4294967296 * r + u1)→q = Q)∧(∀ q r,Hf n1 n0 u u1 q r→¬ (q < 4294967296∧q * n0 ≤ 4294967296 * r + u1)→¬ r + n1 < 4294967296→q - 1 = Q) ∧
   Q < 4294967296∧u * 4294967296 % 18446744073709551616 = a∧Q * (n1 * 4294967296 + n0) % 18446744073709551616 = m∧m < 18446744073709551616∧(a + u1 + 18446744073709551616 - m) % 18446744073709551616 = U2∧U2 < n1 * 4294967296 + n0 ∧
   Q = (u * 4294967296 + u1) / (n1 * 4294967296 + n0)∧U2 = (u * 4294967296 + u1) % (n1 * 4294967296 + n0):=by
 have hV0:0 < n1 * 4294967296 + n0:=by omega
 have hV:n1 * 4294967296 + n0 < 18446744073709551616:=by omega
 have hm:=Nat.div_mul_le_self u n1
 have hmb:u / n1 * n1 < 18446744073709551616:=Nat.lt_of_le_of_lt hm (by omega)
 have hdm:=Nat.div_add_mod (u * 4294967296 + u1) (n1 * 4294967296 + n0)
 have hml:=Nat.mod_lt (u * 4294967296 + u1) hV0
 refine ⟨_,_,_,(u * 4294967296 + u1) / (n1 * 4294967296 + n0),_,_,(u * 4294967296 + u1) % (n1 * 4294967296 + n0),rfl,Nat.mod_eq_of_lt hmb,hmb,rfl,?_,fun q r hf hc=>hf.done hc,fun q r hf hc hr=>hf.brk hc hr,Hf.qlt u1b ub,rfl,rfl,Nat.mod_lt _ (by decide),?_,hml,rfl,rfl⟩
 ·rw [sub_word (r:=u % n1) (by rw [Nat.mul_comm];exact Nat.div_add_mod u n1) (by omega)]
  exact Hf.first n1a n1b n0b u1b ub
 ·rw [Nat.mul_comm] at hdm
  exact two_word hdm (by omega)
theorem Div64_tr (h l y:Nat) (hl:l < 18446744073709551616) (hy:y < 18446744073709551616) (hh:h < y):Tr Tryz.prog 239 [Un h,Un l,Un y] [] [] fun v D=>v = div64 h l y∧D = []:=by
 by_cases h0:h = 0
 ·subst h0
  unfold div64
  rw [Nat.zero_mul,Nat.zero_add]
  exact Div64_low l y hl hy hh
 ·obtain ⟨s,hs,hse,hV1,hV2⟩:=lz_ex y hy (by omega)
  obtain ⟨g1,g2,g3,g4⟩:=d64 hs hl hh hV2
  have es:min (Int.toNat (s:Int)) 64 = s:=by rw [Int.toNat_natCast];exact Nat.min_eq_left (by omega)
  have es2:min (Int.toNat ((64 - s:Nat):Int)) 64 = 64 - s:=by rw [Int.toNat_natCast];exact Nat.min_eq_left (by omega)
  have hor:h * 2 ^ s ||| l / 2 ^ (64 - s) = h * 2 ^ s + l / 2 ^ (64 - s):=by rw [Nat.mul_comm h];exact or_add g2
  have hdu:=div_up (a:=h * 18446744073709551616 + l) (y:=y) (p:=2 ^ s) (Nat.pow_pos (by decide))
  have hsp:=pow_split (s:=s) (by omega)
  have hLb:l / 2 ^ (64 - s) < 18446744073709551616:=Nat.lt_of_le_of_lt (Nat.div_le_self _ _) hl
  have hVb:y * 2 ^ s = y * 2 ^ s / 4294967296 * 4294967296 + y * 2 ^ s % 4294967296:=by omega
  obtain ⟨q0,r0,m0,Q1,a1,m2,U2,A1,A2,A3,A4,A5,A6,A7,A8,A9,A10,A11,A12,A13,A14,A15⟩:=half_facts (n1:=y * 2 ^ s / 4294967296) (n0:=y * 2 ^ s % 4294967296) (u:=h * 2 ^ s + l / 2 ^ (64 - s)) (u1:=l * 2 ^ s % 18446744073709551616 / 4294967296) (by omega) (by omega) (by omega) (by omega) (by rw [← hVb];exact g3)
  obtain ⟨p0,r2',t0,Q2,a2,m3,U3,B1,B2,B3,B4,B5,B6,B7,B8,B9,B10,B11,B12,B13,B14,B15⟩:=half_facts (n1:=y * 2 ^ s / 4294967296) (n0:=y * 2 ^ s % 4294967296) (u:=U2) (u1:=l * 2 ^ s % 18446744073709551616 % 4294967296) (by omega) (by omega) (by omega) (by omega) A13
  rw [← hVb] at A10 A13 A14 A15 B10 B13 B14 B15
  have hD:=div_one (V:=y * 2 ^ s) (a:=(h * 2 ^ s + l / 2 ^ (64 - s)) * 4294967296 + l * 2 ^ s % 18446744073709551616 / 4294967296) (u0:=l * 2 ^ s % 18446744073709551616 % 4294967296) (by omega)
  rw [← A14,← A15] at hD
  rw [← B14,← B15] at hD
  have hN:((h * 2 ^ s + l / 2 ^ (64 - s)) * 4294967296 + l * 2 ^ s % 18446744073709551616 / 4294967296) * 4294967296 + l * 2 ^ s % 18446744073709551616 % 4294967296 = (h * 18446744073709551616 + l) * 2 ^ s:=by rw [g4];omega
  rw [hN,hdu.1,hdu.2] at hD
  have hw:=Div64_walk h l y s (y * 2 ^ s) (h * 2 ^ s) (l / 2 ^ (64 - s)) (h * 2 ^ s + l / 2 ^ (64 - s)) (l * 2 ^ s % 18446744073709551616) (y * 2 ^ s / 4294967296) (y * 2 ^ s % 4294967296) (l * 2 ^ s % 18446744073709551616 / 4294967296) (l * 2 ^ s % 18446744073709551616 % 4294967296)
   q0 r0 m0 Q1 a1 U2 p0 t0 r2' m2 m3 Q2 a2 U3 ((h * 18446744073709551616 + l) % y) h0 hs hl hy hh hse (by rw [es];exact Nat.mod_eq_of_lt hV2) rfl rfl (by rw [es];exact Nat.mod_eq_of_lt g1) (by rw [es2]) hor (by rw [es]) rfl rfl hV2 g1 hLb (by omega) (Nat.mod_lt _ (by decide))
   A1 A2 A3 A4 A5 A6 A7 A8 A9 A10 A11 A12 (by omega) B1 B2 B3 B4 B5 B6 B7 B8 B9 B10 B11 B12 (by rw [es,← hD.2];exact Nat.mul_div_cancel _ (Nat.pow_pos (by decide)))
  rw [← hD.1] at hw
  exact hw
open Go Go.Proofs Go.RowKit
section
variable {P:Program} {E:Env P} {n:Sh} {X:Cx} {s:List K} {fr:Fr} {A A':List Ch} {ops:Array Oper} {rest:List Oper} {d:Nat} {ty t t':TypeId} {pos:String} {after:Array Edge} {x y:Operand} {m q r:Int} {a b z:Nat} {k':IntKind} {c:Int} {o:Op} {u v:Value} {fuel:Nat} {listed:Array Bool} {S:World→Prop}
theorem tke (i:Nat) (he:u = v) (hv:∀ w,S w→OpV P n fr o ty w u w) (k:TS E n X s S ops fuel (listed.setIfInBounds i true) ((d,v) :: fr) A) (hi:ops[i]? = some ⟨some d,o,ty,pos,after,none⟩:=by rfl) (hs:Region.noSelect ops = true:=by kernel_rfl) (hf:Region.free .any ops listed i = true:=by kernel_rfl)
  (hr:(Region.ready .any ops listed).contains i = true:=by kernel_rfl) (hrd:n.r = none:=by rfl) (hd:Nat.blt d n.n = true:=by rfl) (hab:∀ w ρ,(⟨some d,o,ty,pos,after,none⟩ : Oper).about P w ρ = none:=by exact fun _ _=>rfl):TS E n X s S ops (fuel + 1) listed fr A:=by
 subst he;exact tk i hv k hi hs hf hr hrd hd hab
theorem adive (he:m / q = r) (k:TO E n X s ops rest ((d,I r) :: fr) A) (hx:ev fr x = some (I m):=by rfl) (hy:ev fr y = some (I q):=by rfl) (hb:0 ≤ m∧m ≤ 9223372036854775807∧1 ≤ q:=by omega) (hd:Nat.blt d n.n = true:=by rfl):TO E n X s ops (⟨some d,.binOp .quo t x y t',ty,pos,after,none⟩ :: rest) fr A:=adiv (by rw [he];exact k) hx hy hb hd
theorem qamode (he:m % q = r) (k:TQ E n X s ops rest ((d,I r) :: fr) A) (hx:ev fr x = some (I m):=by rfl) (hy:ev fr y = some (I q):=by rfl) (hb:0 ≤ m∧q ≠ 0:=by omega) (hd:Nat.blt d n.n = true:=by rfl):TQ E n X s ops (⟨some d,.binOp .rem t x y t',ty,pos,after,none⟩ :: rest) fr A:=TQ.val (fun _ _=>by rw [← he];exact R_rem64 hx hy hb) k hd
theorem qnsre (he:a / 2 ^ (min c.toNat 64) = z) (k:TQ E n X s ops rest ((d,Un z) :: fr) A) (hx:ev fr x = some (Un a):=by rfl) (hy:ev fr y = some (.int k' c):=by rfl) (hc:0 ≤ c:=by omega) (hd:Nat.blt d n.n = true:=by rfl):TQ E n X s ops (⟨some d,.binOp .shr t x y t',ty,pos,after,none⟩ :: rest) fr A:=qnsr (by rw [he];exact k) hx hy hc hd
theorem qnsle (he:a * 2 ^ (min c.toNat 64) % 18446744073709551616 = z) (k:TQ E n X s ops rest ((d,Un z) :: fr) A) (hx:ev fr x = some (Un a):=by rfl) (hy:ev fr y = some (.int k' c):=by rfl) (hc:0 ≤ c:=by omega) (hd:Nat.blt d n.n = true:=by rfl):TQ E n X s ops (⟨some d,.binOp .shl t x y t',ty,pos,after,none⟩ :: rest) fr A:=qnsl (by rw [he];exact k) hx hy hc hd
end
theorem min_s {s:Nat} (hs:s ≤ 64):min (Int.toNat (s:Int)) 64 = s:=by rw [Int.toNat_natCast];exact Nat.min_eq_left hs
theorem min_63 {s:Nat} (hs:s ≤ 63):min (Int.toNat (63 - (s:Int))) 64 = 63 - s:=by rw [show (63 - (s:Int)).toNat = 63 - s by omega];exact Nat.min_eq_left (by omega)
theorem pow63 {s:Nat} (hs:s ≤ 63):2 * 2 ^ (63 - s) = 2 ^ (64 - s):=by rw [Nat.mul_comm,← Nat.pow_succ];congr 1;omega
theorem down_step {p L M x d y c0 g:Nat} (h:L * g + c0 = M + p * (x % g)) (hy:y * g = x - x % g + d % g * 18446744073709551616):(L + p * y) * g + c0 = M + p * x + p * 18446744073709551616 * (d % g):=by
 have h1:=Nat.mod_le x g
 have h2:=congrArg (p * ·) hy
 simp only [Nat.mul_add,Nat.mul_sub] at h2
 have h3:=Nat.mul_le_mul_left p h1
 rw [Nat.add_mul,Nat.mul_assoc p y g,h2,show p * 18446744073709551616 * (d % g) = p * (d % g * 18446744073709551616) by ac_rfl]
 omega
theorem up_step {Q L M p g x h lo hi:Nat} (hI:L + Q * h = M * g) (hx:x * g = hi * 18446744073709551616 + lo) (hp:Q = p):L + Q * (h + lo) + Q * 18446744073709551616 * hi = (M + p * x) * g:=by
 subst hp
 have:=congrArg (Q * ·) hx
 simp only [Nat.mul_add] at this
 rw [Nat.add_mul,← hI,Nat.mul_assoc Q x g,this,Nat.mul_add,show Q * 18446744073709551616 * hi = Q * (hi * 18446744073709551616) by ac_rfl]
 omega
attribute [local irreducible] Fit pt own ro vw mpc lpt vels rels mow lrc dfr
theorem drop_all {l:List Nat} (ht:Tm l) {k:Nat} (h1:k ≤ l.length) (h2:nv (l.drop k) = 0):k = l.length:=by
 rcases Nat.lt_or_ge k l.length with h | h
 ·have h3:=ht.top (by omega)
  refine absurd (nv_zero h2 _ ?_) h3
  rw [List.getD_eq_getElem?_getD,List.getElem?_eq_getElem (by omega)]
  rw [List.mem_iff_getElem]
  refine ⟨l.length - 1 - k,by rw [List.length_drop];omega,?_⟩
  rw [List.getElem_drop]
  simp only [show k + (l.length - 1 - k) = l.length - 1 by omega]
  rfl
 ·omega
theorem trimC_tr (v:Value) (l:List Nat) (ht:Tm l):Tr Tryz.prog 185 [v] [vw v (Us l)] [] fun u D=>u = v∧D = []:=
 ⟨fun w hw=>((trimmed_tr v l).run w hw).mono fun u w' ⟨B,⟨⟨k,h1,hu,h2,_⟩,hB⟩,hr⟩=>⟨B,⟨by
  have:=slSub_all (vw_sl (hw.h (vw v (Us l)) (List.Mem.head _)))
  rw [Us_len] at this
  rw [hu,drop_all ht h1 h2,this],hB⟩,hr⟩,(trimmed_tr v l).lent⟩
theorem NDown_tr (v1:Value) (l:List Nat) (s:Nat) (hs:s ≤ 63) (hd:Dg l) (hl:l.length ≤ 1099511627776):Tr Tryz.prog 255 [v1,I s] [vw v1 (Us l)] [] fun u D=>∃ o,u = tup2 o (I 0)∧o.oneCell' = true∧D = [own T64 o (Us (dg (nv l / 2 ^ s)))]:=by
 have e64:(s:Int) / 64 = 0:=by omega
 have em:(s:Int) % 64 = s:=by omega
 have es:=min_s (s:=s) (by omega)
 have hmx:max (0:Int) ((l.length:Int) - 0) = l.length:=by omega
 have hsp:=pow_split (s:=s) (by omega)
 have hg:0 < 2 ^ s:=Nat.pow_pos (by decide)
 have hg2:0 < 2 ^ (64 - s):=Nat.pow_pos (by decide)
 refine Tr.enter env _ Tryz.func255 (by kernel_rfl) rfl Tryz.ntmps255 rfl (by repeat (first | exact has00 | refine has01 ?_)) fun w0=>?_
 repeat' first|(refine gca ?_;first|(refine ca (room_tr (l.length:Int) (by omega)) ?_;rintro o _ ⟨ho,rfl⟩))|refine adive e64 ?_|(refine mxx ?_;rw [hmx])|(refine wo ?_;first|(refine ao ?_;first|refine aw ?_|refine oa ?_)|refine oa ?_|refine lnm ?_|refine gy ?_)|(refine gc ?_;first|(refine ci (fun hB=>?_) (fun hB=>?_) <;> try (exfalso;omega)))|refine sq ?_|refine rg ?_|refine xc ?_|refine nl ?_|refine sk ?_|refine bk ?_
 rw [Int.toNat_natCast,show ((List.replicate l.length 0).length) = l.length from List.length_replicate ..]
 refine TC.loop (ι:=Nat × List Nat) (fun k=>[(23,I k.1)]) (fun k=>[own T64 o (Us k.2)]) (fun k=>k.2.length = l.length∧k.1 ≤ l.length∧Dg k.2∧nv (k.2.take k.1) * 2 ^ s + l.getD 0 0 % 2 ^ s = nv (l.take k.1) + 18446744073709551616 ^ k.1 * (l.getD k.1 0 % 2 ^ s)) (fun k=>l.length - k.1) (0,List.replicate l.length 0) [0,1,6,22] ⟨by simp,by simp,Dg.rep _,by simp [nv]⟩ ?_
 rintro ⟨i,ys⟩ ⟨h1,h2,hdy,hI⟩
 dsimp only at h1 h2 hdy hI ⊢
 by_cases hi:i < l.length
 ·obtain ⟨d1,e1⟩ : ∃ d1,l.getD (i + 1) 0 * 2 ^ (min (Int.toNat 1) 64) % 18446744073709551616 = d1:=⟨_,rfl⟩
  obtain ⟨d2,hd2⟩ : ∃ d2,d2 = l.getD (i + 1) 0 % 2 ^ s * 2 ^ (64 - s):=⟨_,rfl⟩
  have e2:d1 * 2 ^ (min (Int.toNat (63 - (s:Int))) 64) % 18446744073709551616 = d2:=by
   rw [min_63 hs,← e1,hd2,Nat.mod_mul_mod,Nat.mul_assoc,show 2 ^ (min (Int.toNat 1) 64) * 2 ^ (63 - s) = 2 ^ (64 - s) from pow63 hs,← hsp,Nat.mul_comm (2 ^ (64 - s)) (2 ^ s)]
   exact Nat.mul_mod_mul_right _ _ _
  have hx:=hd.getD i
  have hdl:l.getD (i + 1) 0 % 2 ^ s < 2 ^ s:=Nat.mod_lt _ hg
  have b1:l.getD i 0 / 2 ^ s < 18446744073709551616:=Nat.lt_of_le_of_lt (Nat.div_le_self _ _) hx
  have b1':l.getD i 0 / 2 ^ s < 2 ^ (64 - s):=Nat.div_lt_of_lt_mul (by rw [Nat.mul_comm,hsp];exact hx)
  have b2:d2 < 18446744073709551616:=by rw [hd2,← hsp,Nat.mul_comm (2 ^ (64 - s))];exact Nat.mul_lt_mul_of_pos_right hdl hg2
  have b3:d2 + 2 ^ (64 - s) ≤ 18446744073709551616:=by
   have:=Nat.mul_le_mul_right (2 ^ (64 - s)) hdl
   rw [Nat.succ_mul,Nat.mul_comm (2 ^ s),hsp] at this
   rw [hd2];exact this
  obtain ⟨y,hy⟩ : ∃ y,y = l.getD i 0 / 2 ^ s + d2:=⟨_,rfl⟩
  have e3:l.getD i 0 / 2 ^ s ||| d2 = y:=by
   rw [hy,Nat.or_comm,hd2,Nat.mul_comm _ (2 ^ (64 - s)),or_add b1'];exact Nat.add_comm _ _
  have by_:y < 18446744073709551616:=by omega
  have hyg:y * 2 ^ s = l.getD i 0 - l.getD i 0 % 2 ^ s + l.getD (i + 1) 0 % 2 ^ s * 18446744073709551616:=by
   have h1:=Nat.div_add_mod (l.getD i 0) (2 ^ s)
   rw [hy,Nat.add_mul,hd2,Nat.mul_assoc,hsp,Nat.mul_comm (l.getD i 0 / 2 ^ s)]
   omega
  have hs2:=down_step hI hyg
  rw [← nv_take_s,← Nat.pow_succ] at hs2
  clear hI hyg hy hd2 b3 b1' hdl
  repeat' first|refine rs (fun w=>Sl w v1 (Us l)) ?_ (fun w hw=>vw_sl (hw.h (vw v1 (Us l)) memA))|(refine wo ?_;first|(refine ao ?_;first|refine oa ?_)|refine oa ?_)|(refine gc ?_;first|(refine ci (fun hB=>?_) (fun hB=>?_) <;> try (exfalso;omega)))|refine sq ?_|refine rg ?_|refine xc ?_|refine nl ?_|refine sk ?_|refine bk ?_
  refine tka 0 ?_
  refine tka 1 ?_
  refine tka 2 ?_
  refine tka 3 ?_
  refine tke 4 (v:=I 0) (by rw [e64]) (fun w _=>R_quo64 (m:=(s:Int)) (q:=64) rfl rfl (by omega)) ?_
  refine tka 5 ?_
  refine tkw 6 (i:Int) ?_
  refine tk 7 (v:=.pointer (some (addrAt v1 i))) (fun w h=>R_idx (E:=env) (i:=(i:Int)) rfl rfl rfl rfl h ⟨Int.natCast_nonneg i,by rw [Us_len];omega⟩) ?_
  refine tk 8 (v:=Un (l.getD i 0)) (fun w h=>R_load (E:=env) rfl rfl rfl (h.cell (Us_get l i hi))) ?_
  refine tka 9 ?_
  refine tke 10 (v:=I s) (by rw [em]) (fun w _=>R_rem64 (m:=(s:Int)) (q:=64) rfl rfl (by omega)) ?_
  refine tke 11 (v:=Un (l.getD i 0 / 2 ^ s)) (by rw [es]) (fun w _=>R_nshr (a:=l.getD i 0) (c:=(s:Int)) rfl rfl (by omega)) ?_
  refine tka 12 ?_
  refine tka 13 ?_
  refine tke 14 (v:=I 0) (by rw [e64]) (fun w _=>R_quo64 (m:=(s:Int)) (q:=64) rfl rfl (by omega)) ?_
  refine tka 15 ?_
  refine tkw 16 (i:Int) ?_
  refine tkw 17 ((i:Int) + 1) ?_
  refine tka 20 ?_
  refine tke 21 (v:=I s) (by rw [em]) (fun w _=>R_rem64 (m:=(s:Int)) (q:=64) rfl rfl (by omega)) ?_
  refine tkw 22 (63 - (s:Int)) ?_
  refine t1 18 ?_
  refine ca (digitN_tr v1 l (i + 1)) ?_
  rintro _ _ ⟨rfl,rfl⟩
  refine nl ?_
  refine te (fun w hw=>vw_sl (hw.h (vw v1 (Us l)) memA)) ?_
  refine tke 19 (v:=Un d1) (by rw [e1]) (fun w _=>R_nshl (a:=l.getD (i + 1) 0) (c:=1) rfl rfl (by decide)) ?_
  refine tke 23 (v:=Un d2) (by rw [e2]) (fun w _=>R_nshl (a:=d1) (c:=63 - (s:Int)) rfl rfl (by omega)) ?_
  refine tke 24 (v:=Un y) (by rw [e3]) (fun w _=>R_nor (a:=l.getD i 0 / 2 ^ s) (b:=d2) rfl rfl b1 b2) ?_
  refine t1 25 ?_
  refine ixmn ?_
  refine nl ?_
  refine te (fun w hw=>vw_sl (hw.h (vw v1 (Us l)) memA)) ?_
  refine t1 26 ?_
  refine sou ?_
  refine nl ?_
  refine te (fun w hw=>vw_sl (hw.h (vw v1 (Us l)) memA)) ?_
  refine t0 ?_
  repeat' first|(refine wo ?_;first|(refine ao ?_;first|refine aw ?_)|refine oa ?_)|refine rg ?_|refine xc ?_|refine nl ?_|refine xb ?_
  exact lp (i + 1,ys.set i y) ⟨by dsimp only;rw [List.length_set];exact h1,by dsimp only;omega,hdy.set by_,by dsimp only;rw [nv_set_take _ _ _ (by omega)];exact hs2⟩
 ·obtain rfl:i = l.length:=by omega
  have hn:nv ys = nv l / 2 ^ s:=by
   rw [nv_take_all (by omega),nv_take_all (Nat.le_refl _),getD_over (Nat.le_refl _),Nat.zero_mod,Nat.mul_zero,Nat.add_zero] at hI
   rw [← hI,Nat.add_comm,Nat.add_mul_div_right _ _ hg,Nat.div_eq_of_lt (Nat.mod_lt _ hg),Nat.zero_add]
  rw [← hn]
  repeat' first|(refine gca ?_;first|(refine ca (trimmed_tr o ys) ?_;rintro _ _ ⟨⟨k,g1,rfl,g2,g3⟩,rfl⟩;refine TO.im (trim_own o ys hdy g1 g2 g3 _) ?_)|(refine ca (NClip_tr _ _) ?_;rintro u _ ⟨hu,rfl⟩))|(refine wo ?_;first|(refine ao ?_;first|refine oa ?_)|refine oa ?_)|(refine gc ?_;first|(refine ci (fun hB=>?_) (fun hB=>?_) <;> try (exfalso;omega)))|refine sq ?_|refine rg ?_|refine xc ?_|refine nl ?_|refine xe ?_|refine rt ?_
  exact r2 ⟨u,rfl,hu,rfl⟩
theorem NUp_tr (v1:Value) (n:Nat) (s:Nat) (hs:s ≤ 63) (hn:n ≠ 0) (hl:(dg n).length ≤ 1099511627776):Tr Tryz.prog 253 [v1,I s] [vw v1 (Us (dg n))] [] fun u D=>∃ o,u = tup2 o (I 0)∧o.oneCell' = true∧D = [own T64 o (Us (dg (n * 2 ^ s)))]:=by
 have e64:(s:Int) / 64 = 0:=by omega
 have em:(s:Int) % 64 = s:=by omega
 have es:=min_s (s:=s) (by omega)
 have hsp:=pow_split (s:=s) (by omega)
 have hg:0 < 2 ^ s:=Nat.pow_pos (by decide)
 have hg2:0 < 2 ^ (64 - s):=Nat.pow_pos (by decide)
 obtain ⟨l,hl2⟩ : ∃ l,l = dg n:=⟨_,rfl⟩
 have hd:Dg l:=by rw [hl2];exact Dg_dg n
 have ht:Tm l:=by rw [hl2];exact Tm_dg n
 have hnv:nv l = n:=by rw [hl2,nv_dg]
 have hl0:l ≠ []:=by rw [hl2];exact fun h=>hn (dg_nil.1 h)
 rw [← hl2] at hl ⊢
 rw [← hnv]
 clear hl2 hn hnv n
 have hlp:0 < l.length:=List.length_pos_iff.2 hl0
 refine Tr.enter env _ Tryz.func253 (by kernel_rfl) rfl Tryz.ntmps253 rfl (by repeat (first | exact has00 | refine has01 ?_)) fun w0=>?_
 repeat' first|(refine gca ?_;first|(refine ca (trimC_tr v1 l ht) ?_;rintro _ _ ⟨rfl,rfl⟩)|(refine ca (room_tr ((l.length:Int) + 1) (by omega)) ?_;rintro o _ ⟨ho,rfl⟩))|refine adive e64 ?_|(refine aw ?_;rw [show (0:Int) + (l.length:Int) = (l.length:Int) from Int.zero_add _])|(refine wo ?_;first|(refine ao ?_;first|refine aw ?_|refine oa ?_)|refine oa ?_|refine lnm ?_|refine gy ?_)|(refine gc ?_;first|(refine ci (fun hB=>?_) (fun hB=>?_) <;> try (exfalso;omega)))|refine sq ?_|refine rg ?_|refine xc ?_|refine nl ?_|refine sk ?_|refine bk ?_
 rw [show ((l.length:Int) + 1).toNat = l.length + 1 by omega]
 refine TC.loop (ι:=Nat × List Nat) (fun k=>[(31,I k.1)]) (fun k=>[own T64 o (Us k.2)]) (fun k=>k.2.length = l.length + 1∧k.1 ≤ l.length∧Dg k.2∧k.2.getD k.1 0 < 2 ^ s∧nv (k.2.take (k.1 + 1)) = nv (l.take k.1) * 2 ^ s) (fun k=>l.length - k.1) (0,List.replicate (l.length + 1) 0) [0,1,6,29,30] ⟨by simp,by simp,Dg.rep _,by simpa using hg,by simp [nv]⟩ ?_
 rintro ⟨i,ys⟩ ⟨h1,h2,hdy,hh,hI⟩
 dsimp only at h1 h2 hdy hh hI ⊢
 by_cases hi:i < l.length
 ·obtain ⟨xh,e1⟩ : ∃ xh,l.getD i 0 / 2 ^ (min (Int.toNat 1) 64) = xh:=⟨_,rfl⟩
  obtain ⟨hi',e2⟩ : ∃ hi',xh / 2 ^ (min (Int.toNat (63 - (s:Int))) 64) = hi':=⟨_,rfl⟩
  obtain ⟨lo,e3⟩ : ∃ lo,l.getD i 0 * 2 ^ (min (Int.toNat (s:Int)) 64) % 18446744073709551616 = lo:=⟨_,rfl⟩
  have hx:=hd.getD i
  have f2:hi' = l.getD i 0 / 2 ^ (64 - s):=by
   rw [← e2,← e1,min_63 hs,Nat.div_div_eq_div_mul,show 2 ^ (min (Int.toNat 1) 64) * 2 ^ (63 - s) = 2 ^ (64 - s) from pow63 hs]
  have f3:lo = l.getD i 0 * 2 ^ s % 18446744073709551616:=by rw [← e3,es]
  have f4:l.getD i 0 * 2 ^ s = hi' * 18446744073709551616 + lo:=by
   rw [f3,f2,← Nat.mul_div_mul_right (l.getD i 0) (2 ^ (64 - s)) hg,hsp,Nat.mul_comm (_ / _)]
   exact (Nat.div_add_mod _ _).symm
  have f5:hi' < 2 ^ s:=by rw [f2];exact Nat.div_lt_of_lt_mul (by rw [hsp];exact hx)
  have f6:lo < 18446744073709551616:=by rw [f3];exact Nat.mod_lt _ (by decide)
  obtain ⟨m,f7⟩ : ∃ m,lo = 2 ^ s * m:=⟨l.getD i 0 % 2 ^ (64 - s),by
   rw [f3,← hsp,Nat.mul_mod_mul_right,Nat.mul_comm]⟩
  have f8:ys.getD i 0 ||| lo = ys.getD i 0 + lo:=by
   rw [Nat.or_comm,f7,or_add hh];exact Nat.add_comm _ _
  have f9:ys.getD i 0 + lo < 18446744073709551616:=by
   have h4:m < 2 ^ (64 - s):=Nat.lt_of_mul_lt_mul_left (a:=2 ^ s) (by rw [← f7,Nat.mul_comm,hsp];exact f6)
   have h5:=Nat.mul_le_mul_left (2 ^ s) h4
   rw [Nat.mul_comm (2 ^ s) (2 ^ (64 - s)),hsp,Nat.mul_succ,← f7] at h5
   omega
  have f10:hi' < 18446744073709551616:=by
   have:2 ^ s ≤ 2 ^ 63:=Nat.pow_le_pow_right (by decide) hs
   omega
  have hyi:=hdy.getD i
  have hJ:nv (ys.take i) + 18446744073709551616 ^ i * ys.getD i 0 = nv (l.take i) * 2 ^ s:=by rw [← nv_take_s];exact hI
  have hK:=up_step hJ f4 rfl
  rw [← nv_take_s l i] at hK
  have hL:nv (((ys.set i (ys.getD i 0 + lo)).set (i + 1) hi').take (i + 1 + 1)) = nv (l.take (i + 1)) * 2 ^ s:=by
   rw [nv_set_take _ _ _ (by rw [List.length_set];omega),nv_set_take _ _ _ (by omega),Nat.pow_succ];exact hK
  have hM:((ys.set i (ys.getD i 0 + lo)).set (i + 1) hi').getD (i + 1) 0 < 2 ^ s:=by rw [getD_setN _ _ _ (by rw [List.length_set];omega)];exact f5
  have hsl:(ys.set i (ys.getD i 0 + lo)).length = l.length + 1:=by rw [List.length_set];exact h1
  clear hJ hK f4 f3 f7 f2 hI
  repeat' first|(refine aw ?_;rw [show (i:Int) + 1 = ((i + 1:Nat):Int) from rfl])|(refine aw ?_;rw [show (0:Int) + (i:Int) = (i:Int) from Int.zero_add _])|refine adive e64 ?_|refine qamode em ?_|refine qnsre e1 ?_|refine qnsre e2 ?_|refine qnsle e3 ?_|refine nore f8 ?_|(refine wo ?_;first|(refine ao ?_;first|refine oa ?_)|refine lu ?_|refine sou ?_|refine oa ?_|refine ixmn ?_)|(refine gc ?_;first|(refine ci (fun hB=>?_) (fun hB=>?_) <;> try (exfalso;omega)))|refine sq ?_|refine rg ?_|refine xc ?_|refine nl ?_|refine sk ?_|refine bk ?_|refine xb ?_|refine rq ?_|refine nq ?_|(refine wq ?_;first|(refine qao ?_;first|refine qaw ?_)|refine qa ?_)
  exact lp (i + 1,(ys.set i (ys.getD i 0 + lo)).set (i + 1) hi') ⟨by dsimp only;rw [List.length_set];exact hsl,by dsimp only;omega,(hdy.set f9).set f10,hM,hL⟩
 ·obtain rfl:i = l.length:=by omega
  have hn:nv ys = nv l * 2 ^ s:=by
   rw [nv_take_all (by omega),nv_take_all (Nat.le_refl _)] at hI
   exact hI
  rw [← hn]
  repeat' first|(refine gca ?_;first|(refine ca (trimmed_tr o ys) ?_;rintro _ _ ⟨⟨k,g1,rfl,g2,g3⟩,rfl⟩;refine TO.im (trim_own o ys hdy g1 g2 g3 _) ?_)|(refine ca (NClip_tr _ _) ?_;rintro u _ ⟨hu,rfl⟩))|(refine wo ?_;first|(refine ao ?_;first|refine oa ?_)|refine oa ?_)|(refine gc ?_;first|(refine ci (fun hB=>?_) (fun hB=>?_) <;> try (exfalso;omega)))|refine sq ?_|refine rg ?_|refine xc ?_|refine nl ?_|refine xe ?_|refine rt ?_
  exact r2 ⟨u,rfl,hu,rfl⟩
def nbits (n:Nat):Nat:=if n = 0 then 0 else 64 * ((dg n).length - 1) + Lib.bitLen ((dg n).getD ((dg n).length - 1) 0)
theorem NLen_tr (v:Value) (l:List Nat) (hd:Dg l) (hl:l.length ≤ 1099511627776):Tr Tryz.prog 131 [v] [vw v (Us l)] [] fun u D=>(∃ b:Nat,u = I b∧(b = 0 ↔ nv l = 0))∧D = []:=by
 have hk:∀ k,k ≤ l.length→nv (l.drop k) = 0→Tm (l.take k)→(l.take k).length = k∧(k = 0 ↔ nv l = 0):=fun k h1 h2 h3=>by
  refine ⟨by rw [List.length_take];omega,fun h=>by subst h;exact h2,fun h=>?_⟩
  have:dg (nv l) = l.take k:=by rw [← dg_top hd h2,dg_nv (hd.take k) h3]
  rw [h,dg_zero] at this
  have:=congrArg List.length this
  rw [List.length_take] at this
  simp only [List.length_nil] at this
  omega
 refine Tr.enter env _ Tryz.func131 (by kernel_rfl) rfl Tryz.ntmps131 rfl (by repeat (first | exact has00 | refine has01 ?_)) fun w0=>?_
 repeat' first|(refine gca ?_;first|(refine ca (trimmed_tr v l) ?_;rintro u _ ⟨⟨k,g1,hu,g2,g3⟩,rfl⟩))|(refine wo ?_;first|refine oa ?_)|refine sq ?_|refine rg ?_|refine xc ?_|refine nl ?_
 obtain ⟨e1,e2⟩:=hk k g1 g2 g3
 have hh:Has [vw v (Us l)] (vw u (Us (l.take k))):=by rw [hu];exact has_take (has_vw (List.Mem.head _)) g1
 refine TO.im (B:=[vw v (Us l)]) (Im.refl _) ?_
 have hdt:=(hd.take k).getD (k - 1)
 have ht:=fun h:0 < k=>g3.top (by omega)
 rw [e1] at ht
 have hge:(((l.take k).length:Int) - 1).toNat = k - 1:=by omega
 obtain ⟨x,hx⟩ : ∃ x,(l.take k).getD (k - 1) 0 = x:=⟨_,rfl⟩
 rw [hx] at hdt ht
 rw [← hge] at hx
 clear hk g2 g3
 obtain ⟨m,hm⟩ : ∃ m,m = l.take k:=⟨_,rfl⟩
 rw [← hm] at hh e1 hx
 clear hm
 have hbl:=bitLen_le64 x hdt
 have hb1:0 < k→1 ≤ Lib.bitLen x:=fun h=>(bitLen_bounds x hdt (ht h)).1
 repeat' first|(refine gca ?_;first|(refine ca (Len64_tr x hdt) ?_;rintro _ _ ⟨rfl,rfl⟩))|refine lue hx ?_|(refine wo ?_;first|(refine ao ?_;first|refine aw ?_|refine oa ?_)|refine oa ?_|refine lnm ?_|refine ixm ?_)|(refine gc ?_;first|(refine ci (fun hB=>?_) (fun hB=>?_) <;> try (exfalso;omega)))|refine sq ?_|refine rg ?_|refine xc ?_|refine nl ?_|refine sk ?_|refine rt ?_
 ·exact r1 (v:=I 0) ⟨⟨0,rfl,by omega⟩,rfl⟩
 ·exact r1 (v:=I (64 * ((m.length:Int) - 1) + (Lib.bitLen x:Int))) ⟨⟨64 * (m.length - 1) + Lib.bitLen x,by rw [show (64 * ((m.length:Int) - 1) + (Lib.bitLen x:Int)) = ((64 * (m.length - 1) + Lib.bitLen x:Nat):Int) by omega],by have:=hb1 (by omega);omega⟩,rfl⟩
end Go.Art
namespace Go.Art
open Go Go.Proofs Go.RowKit
theorem line_word {x y c o:Nat} (hx:x < 18446744073709551616) (hy:y < 18446744073709551616) (hc:c < 18446744073709551616) (ho:o < 18446744073709551616):∃ hi lo,mul64 x y = .tuple #[Un hi,Un lo]∧hi < 18446744073709551616∧lo < 18446744073709551616∧hi + (lo + c + 0) / 18446744073709551616 < 18446744073709551616 ∧
  hi + (lo + c + 0) / 18446744073709551616 + (o + (lo + c + 0) % 18446744073709551616 + 0) / 18446744073709551616 < 18446744073709551616 ∧
  (o + (lo + c + 0) % 18446744073709551616 + 0) % 18446744073709551616 + 18446744073709551616 * (hi + (lo + c + 0) / 18446744073709551616 + (o + (lo + c + 0) % 18446744073709551616 + 0) / 18446744073709551616) = o + c + x * y:=by
 refine ⟨x * y / 18446744073709551616,x * y % 18446744073709551616,rfl,?_⟩
 have h1:x * y ≤ 18446744073709551615 * 18446744073709551615:=Nat.mul_le_mul (by omega) (by omega)
 obtain ⟨p,hp⟩ : ∃ p,p = x * y:=⟨_,rfl⟩
 rw [← hp] at h1 ⊢
 omega
theorem line_step {T L Q M a x s e o c:Nat} (h:L + c * Q = T + M * x) (hs:s + 18446744073709551616 * e = o + c + x * a) {L':Nat} (hL:L' + Q * o = L + Q * s) {M' R:Nat} (hM:M' = M + R * a) (hR:Q = R):L' + e * (Q * 18446744073709551616) = T + M' * x:=by
 subst hR hM
 have:=congrArg (Q * ·) hs
 simp only [Nat.mul_add] at this
 rw [show e * (Q * 18446744073709551616) = Q * (18446744073709551616 * e) by ac_rfl,Nat.add_mul,show Q * a * x = Q * (x * a) by ac_rfl]
 rw [Nat.mul_comm c] at h
 omega
theorem line_tail {T L Q s e o c:Nat} (h:L + c * Q = T) (hs:s + 18446744073709551616 * e = o + c) {L':Nat} (hL:L' + Q * o = L + Q * s):L' + e * (Q * 18446744073709551616) = T:=by
 have:=congrArg (Q * ·) hs
 simp only [Nat.mul_add] at this
 rw [show e * (Q * 18446744073709551616) = Q * (18446744073709551616 * e) by ac_rfl]
 rw [Nat.mul_comm c] at h
 omega
theorem addr_piece {w:World} {e:TypeId} {o:Value} {xs:List Value} (h:OwnO w e o xs) {q hi:Nat} (hq:q < xs.length) (j:Nat):addrAt (slSub o q hi) j = addrAt o (q + j):=by
 rcases h with ⟨_,rfl⟩ | ⟨g,f,cap,cur,rfl,hb,g2,g3,g4,g5⟩
 ·simp at hq
 ·rw [piece (n':=xs.length) hq g2]
  simp [addrAt,Addr.add_lit,Nat.add_assoc]
attribute [local irreducible] Fit pt own ro vw mpc lpt vels rels mow lrc dfr
set_option maxHeartbeats 1000000 in
theorem line_tr (o va:Value) (q x:Nat) (ys a:List Nat) (hd:Dg ys) (ha:Dg a) (hx:x < 18446744073709551616) (hq:q + a.length < ys.length) (hy:ys.length ≤ 4398046511104) (hb:nv ys + 18446744073709551616 ^ q * nv a * x < 18446744073709551616 ^ ys.length) :
  Tr Tryz.prog 240 [slSub o q ys.length,va,Un x] [vw va (Us a)] [own T64 o (Us ys)] fun _ D=>∃ zs,D = [own T64 o (Us zs)]∧zs.length = ys.length∧Dg zs∧nv zs = nv ys + 18446744073709551616 ^ q * nv a * x:=by
 refine Tr.enter env _ Tryz.func240 (by kernel_rfl) rfl Tryz.ntmps240 rfl (by repeat (first | exact has00 | refine has01 ?_)) fun w0=>?_
 refine TC.fact (p:=∀ j,addrAt (slSub o q ys.length) j = addrAt o (q + j)) (fun w hw j=>addr_piece (own_O (hw.h (own T64 o (Us ys)) memA)) (by rw [Us_len];omega) j) fun hA=>?_
 repeat' first|(refine wo ?_;first|refine oa ?_|refine lnm ?_)|refine sq ?_|refine rg ?_|refine xc ?_|refine nl ?_|refine bk ?_
 refine TC.loop (ι:=Nat × Nat × List Nat) (fun k=>[(15,I k.1),(6,Un k.2.1)]) (fun k=>[own T64 o (Us k.2.2)]) (fun k=>k.2.2.length = ys.length∧k.1 ≤ a.length∧k.2.1 < 18446744073709551616∧Dg k.2.2∧nv k.2.2 + k.2.1 * 18446744073709551616 ^ (q + k.1) = nv ys + 18446744073709551616 ^ q * nv (a.take k.1) * x) (fun k=>a.length - k.1) (0,0,ys) [0,1,2,13,14] ⟨rfl,by simp,by simp,hd,by simp [nv]⟩ ?_
 rintro ⟨i,c,zs⟩ ⟨h1,h2,hc,hz,hI⟩
 dsimp only at h1 h2 hc hz hI ⊢
 by_cases hi:i < a.length
 ·have hyb:=ha.getD i
  have hob:=hz.getD (q + i)
  obtain ⟨mh,ml,e1,e2,e3,e4,e5,e6⟩:=line_word hx hyb hc hob
  have hh:Has [own T64 o (Us zs),vw va (Us a)] (vw (slSub o q ys.length) (Us (zs.drop q))):=by rw [← h1];exact has_drop (has_own (List.Mem.head _)) (by omega)
  have hzl:(zs.drop q).length = ys.length - q:=by rw [List.length_drop,h1]
  refine TC.im (B:=[own T64 o (Us zs),vw va (Us a)]) (Im.refl _) ?_
  repeat' first|(refine gca ?_;first|(refine ca (Mul64_tr x (a.getD i 0) hx hyb) ?_;rintro _ _ ⟨rfl,rfl⟩;rw [e1];refine TO.im (B:=[own T64 o (Us zs),vw va (Us a)]) (Im.refl _) ?_))|refine cadd (c:=0) (by decide) ?_|(refine ixmn ?_;rw [hA])|(refine wo ?_;first|(refine ao ?_;first|(refine nao ?_;first|refine nad ?_)|(refine naou ?_;first|refine nad ?_)|refine aw ?_|refine oa ?_)|refine lu ?_|refine sou ?_|refine oa ?_|refine ixmn ?_)|(refine gc ?_;first|(refine ci (fun hB=>?_) (fun hB=>?_) <;> try (exfalso;omega)))|refine sq ?_|refine rg ?_|refine xc ?_|refine nl ?_|refine sk ?_|refine bk ?_|refine xb ?_
  have hS:=line_step hI e6 (nv_set zs (q + i) ((zs.getD (q + i) 0 + (ml + c + 0) % 18446744073709551616 + 0) % 18446744073709551616) (by omega)) (M':=18446744073709551616 ^ q * nv (a.take (i + 1))) (R:=18446744073709551616 ^ (q + i)) (by rw [nv_take_s,Nat.mul_add,Nat.pow_add,Nat.mul_assoc]) rfl
  exact lp (i + 1,mh + (ml + c + 0) / 18446744073709551616 + (zs.getD (q + i) 0 + (ml + c + 0) % 18446744073709551616 + 0) / 18446744073709551616,zs.set (q + i) ((zs.getD (q + i) 0 + (ml + c + 0) % 18446744073709551616 + 0) % 18446744073709551616)) ⟨by dsimp only;rw [List.length_set];exact h1,by dsimp only;omega,e5,hz.set (Nat.mod_lt _ (by decide)),by dsimp only;rw [← Nat.add_assoc q i 1,Nat.pow_succ];exact hS⟩
 ·obtain rfl:i = a.length:=by omega
  rw [nv_take_all (Nat.le_refl _)] at hI
  repeat' first|(refine wo ?_;first|(refine ao ?_;first|refine oa ?_)|refine oa ?_|refine lnm ?_)|(refine gc ?_;first|(refine ci (fun hB=>?_) (fun hB=>?_) <;> try (exfalso;omega)))|refine sq ?_|refine rg ?_|refine xc ?_|refine nl ?_|refine bk ?_|refine xe ?_
  refine TC.loop (ι:=Nat × Nat × List Nat) (fun k=>[(12,I k.1),(6,Un k.2.1)]) (fun k=>[own T64 o (Us k.2.2)]) (fun k=>k.2.2.length = ys.length∧k.2.1 < 18446744073709551616∧Dg k.2.2∧nv k.2.2 + k.2.1 * 18446744073709551616 ^ (q + k.1) = nv ys + 18446744073709551616 ^ q * nv a * x) (fun k=>ys.length - k.1) (a.length,c,zs) [0,1,2] ⟨h1,hc,hz,hI⟩ ?_
  clear hI hz hc h1 h2 hi
  rintro ⟨j,k,ws⟩ ⟨h1,hc,hz,hI⟩
  dsimp only at h1 hc hz hI ⊢
  by_cases hc0:0 < k
  ·have hql:q + j < ys.length:=by
    rcases Nat.lt_or_ge (q + j) ys.length with h | h
    ·exact h
    ·have h3:18446744073709551616 ^ ys.length ≤ 18446744073709551616 ^ (q + j):=Nat.pow_le_pow_right (by decide) h
     have h4:=Nat.mul_le_mul hc0 h3
     omega
   have hob:=hz.getD (q + j)
   have hh:Has [own T64 o (Us ws),vw va (Us a)] (vw (slSub o q ys.length) (Us (ws.drop q))):=by rw [← h1];exact has_drop (has_own (List.Mem.head _)) (by omega)
   have hzl:(ws.drop q).length = ys.length - q:=by rw [List.length_drop,h1]
   have e6:(ws.getD (q + j) 0 + k + 0) % 18446744073709551616 + 18446744073709551616 * ((ws.getD (q + j) 0 + k + 0) / 18446744073709551616) = ws.getD (q + j) 0 + k:=by rw [Nat.add_zero];exact Nat.mod_add_div _ _
   have e5:(ws.getD (q + j) 0 + k + 0) / 18446744073709551616 < 18446744073709551616:=by omega
   have hS:=line_tail hI e6 (nv_set ws (q + j) ((ws.getD (q + j) 0 + k + 0) % 18446744073709551616) (by omega))
   refine TC.im (B:=[own T64 o (Us ws),vw va (Us a)]) (Im.refl _) ?_
   repeat' first|refine cadd (c:=0) (by decide) ?_|(refine ixmn ?_;rw [hA])|(refine wo ?_;first|(refine ao ?_;first|refine aw ?_|refine oa ?_)|refine lu ?_|refine sou ?_|refine oa ?_)|(refine gc ?_;first|(refine ci (fun hB=>?_) (fun hB=>?_) <;> try (exfalso;omega)))|refine sq ?_|refine rg ?_|refine xc ?_|refine nl ?_|refine sk ?_|refine bk ?_|refine xb ?_
   exact lp (j + 1,(ws.getD (q + j) 0 + k + 0) / 18446744073709551616,ws.set (q + j) ((ws.getD (q + j) 0 + k + 0) % 18446744073709551616)) ⟨by dsimp only;rw [List.length_set];exact h1,e5,hz.set (Nat.mod_lt _ (by decide)),by dsimp only;rw [← Nat.add_assoc q j 1,Nat.pow_succ];exact hS⟩
  ·obtain rfl:k = 0:=by omega
   repeat' first|(refine wo ?_;first|(refine ao ?_;first|refine oa ?_)|refine oa ?_)|(refine gc ?_;first|refine cf ?_)|refine sq ?_|refine rg ?_|refine xc ?_|refine nl ?_|refine xe ?_
   exact e0 ⟨ws,rfl,h1,hz,by rw [Nat.zero_mul,Nat.add_zero] at hI;exact hI⟩
theorem dg_len_le {l:List Nat} (hd:Dg l):(dg (nv l)).length ≤ l.length:=(dg_len _ _).2 (nv_lt hd)
theorem School_tr (va vb:Value) (a b:List Nat) (ha:Dg a) (hb:Dg b) (hla:a.length ≤ 1099511627776) (hlb:b.length ≤ 1099511627776):Tr Tryz.prog 197 [va,vb] [vw va (Us a),vw vb (Us b)] [] fun u D=>u.oneCell' = true∧D = [own T64 u (Us (dg (nv a * nv b)))]:=by
 have h1:=dg_len_le ha
 have h2:=dg_len_le hb
 obtain ⟨x,hx⟩ : ∃ x,x = dg (nv a):=⟨_,rfl⟩
 obtain ⟨y,hy⟩ : ∃ y,y = dg (nv b):=⟨_,rfl⟩
 have hxn:nv x = nv a:=by rw [hx,nv_dg]
 have hyn:nv y = nv b:=by rw [hy,nv_dg]
 have hxd:Dg x:=by rw [hx];exact Dg_dg _
 have hyd:Dg y:=by rw [hy];exact Dg_dg _
 rw [← hx] at h1
 rw [← hy] at h2
 rw [← hxn,← hyn]
 refine Tr.enter env _ Tryz.func197 (by kernel_rfl) rfl Tryz.ntmps197 rfl (by repeat (first | exact has00 | refine has01 ?_)) fun w0=>?_
 repeat' first|(refine gca ?_;first|(refine ca (Trim_tr va a ha (by omega)) ?_;rw [← hx];rintro u1 _ ⟨hu1,rfl⟩)|(refine ca (Trim_tr vb b hb (by omega)) ?_;rw [← hy];rintro u2 _ ⟨hu2,rfl⟩))|(refine mku fun o=>?_)|(refine wo ?_;first|(refine ao ?_;first|refine aw ?_)|refine oa ?_|refine lnm ?_)|refine sq ?_|refine rg ?_|refine xc ?_|refine nl ?_|refine bk ?_
 rw [show ((x.length:Int) + (y.length:Int) + 1).toNat = x.length + y.length + 1 by omega]
 refine TC.loop (ι:=Nat × List Nat) (fun k=>[(21,I k.1)]) (fun k=>[own T64 o (Us k.2)]) (fun k=>k.2.length = x.length + y.length + 1∧k.1 ≤ y.length∧Dg k.2∧nv k.2 = nv x * nv (y.take k.1)) (fun k=>y.length - k.1) (0,List.replicate (x.length + y.length + 1) 0) [0,1,5,19,20] ⟨by simp,by simp,Dg.rep _,by simp [nv,nv_rep]⟩ ?_
 rintro ⟨i,zs⟩ ⟨g1,g2,g3,g4⟩
 dsimp only at g1 g2 g3 g4 ⊢
 by_cases hi:i < y.length
 ·have hyi:=hyd.getD i
  have hb:nv zs + 18446744073709551616 ^ i * nv x * y.getD i 0 = nv x * nv (y.take (i + 1)):=by
   rw [g4,nv_take_s,Nat.mul_add,Nat.mul_comm _ (nv x),Nat.mul_assoc]
  have hb2:nv x * nv (y.take (i + 1)) < 18446744073709551616 ^ zs.length:=by
   have b1:=nv_lt hxd
   have b2:=nv_lt hyd
   have b3:nv (y.take (i + 1)) ≤ nv y:=by rw [nv_cut y (i + 1)];exact Nat.le_add_right _ _
   have b4:nv x * nv (y.take (i + 1)) ≤ 18446744073709551616 ^ x.length * 18446744073709551616 ^ y.length:=Nat.mul_le_mul (Nat.le_of_lt b1) (by omega)
   rw [← Nat.pow_add] at b4
   exact Nat.lt_of_le_of_lt b4 (Nat.pow_lt_pow_right (by decide) (by omega))
  rw [← hb] at hb2
  have hL:=line_tr o u1 i (y.getD i 0) zs x g3 hxd hyi (by omega) (by omega) hb2
  rw [hb] at hL
  clear hb hb2 g4
  repeat' first|(refine gca ?_;first|(refine ca hL ?_;rintro _ _ ⟨ws,rfl,w1,w2,w3⟩))|(refine wo ?_;first|(refine ao ?_;first|refine aw ?_|refine oa ?_)|refine lu ?_|refine oa ?_|refine ixmn ?_|refine sclm ?_)|(refine gc ?_;first|(refine ci (fun hB=>?_) (fun hB=>?_) <;> try (exfalso;omega)))|refine sq ?_|refine rg ?_|refine xc ?_|refine nl ?_|refine sk ?_|refine bk ?_|refine xb ?_
  exact lp (i + 1,ws) ⟨by dsimp only;omega,by dsimp only;omega,w2,w3⟩
 ·obtain rfl:i = y.length:=by omega
  rw [nv_take_all (Nat.le_refl _)] at g4
  rw [← g4]
  repeat' first|(refine gca ?_;first|(refine ca (Trim_tr o zs g3 (by omega)) ?_;rintro u _ ⟨hu,rfl⟩))|(refine wo ?_;first|(refine ao ?_;first|refine oa ?_)|refine oa ?_)|(refine gc ?_;first|(refine ci (fun hB=>?_) (fun hB=>?_) <;> try (exfalso;omega)))|refine sq ?_|refine rg ?_|refine xc ?_|refine nl ?_|refine xe ?_|refine rt ?_
  exact r1 ⟨hu,rfl⟩
theorem NGrow_tr (va:Value) (a:List Nat) (x:Nat) (ha:Dg a) (hx:x < 18446744073709551616) (hla:a.length ≤ 1099511627776):Tr Tryz.prog 138 [va,Un x] [vw va (Us a)] [] fun u D=>u.oneCell' = true∧D = [own T64 u (Us (dg (nv a * x)))]:=by
 have e:nv [x] = x:=by simp [nv]
 refine Tr.enter env _ Tryz.func138 (by kernel_rfl) rfl Tryz.ntmps138 rfl (by repeat (first | exact has00 | refine has01 ?_)) fun w0=>?_
 repeat' first|(refine gca ?_;first|(refine ca (School_tr va o a [x] ha (Dg.one hx) hla (by simp)) ?_;rw [e];rintro u _ ⟨hu,rfl⟩))|(refine slu [x] fun o ho=>?_)|(refine wo ?_;first|refine oa ?_)|refine sq ?_|refine rg ?_|refine xc ?_|refine nl ?_|refine rt ?_
 exact r1 ⟨hu,rfl⟩
end Go.Art
namespace Go.Art
open Go Go.Proofs Go.RowKit
abbrev tup3 (a b c:Value):Value:=.tuple #[a,b,c]
theorem part_step {left a q r x Y L:Nat} (h:L = Y * x + left) (hq:left * 18446744073709551616 + a = x * q + r):a + 18446744073709551616 * L = (q + 18446744073709551616 * Y) * x + r:=by
 rw [h,Nat.add_mul,Nat.mul_add,Nat.mul_assoc,Nat.mul_comm q x,Nat.mul_comm 18446744073709551616 left]
 omega
theorem nv_set_drop (l:List Nat) (i x:Nat) (h:i < l.length):nv ((l.set i x).drop i) = x + 18446744073709551616 * nv (l.drop (i + 1)):=by
 rw [nv_step,getD_setN l i x h,List.drop_set,if_pos (by omega)]
attribute [local irreducible] Fit pt own ro vw mpc lpt vels rels mow lrc dfr
theorem Part_tr (va:Value) (a:List Nat) (x:Nat) (ha:Dg a) (hx:x < 18446744073709551616) (hx0:x ≠ 0) (hla:a.length ≤ 1099511627776):Tr Tryz.prog 196 [va,Un x] [vw va (Us a)] [] fun u D=>∃ o,u = tup3 o (Un (nv a % x)) (I 0)∧o.oneCell' = true∧D = [own T64 o (Us (dg (nv a / x)))]:=by
 refine Tr.enter env _ Tryz.func196 (by kernel_rfl) rfl Tryz.ntmps196 rfl (by repeat (first | exact has00 | refine has01 ?_)) fun w0=>?_
 repeat' first|refine mku fun o=>?_|(refine wo ?_;first|(refine ao ?_;first|refine aw ?_|refine oa ?_)|refine oa ?_|refine lnm ?_)|(refine gc ?_;first|(refine ci (fun hB=>?_) (fun hB=>?_) <;> try (exfalso;omega)))|refine sq ?_|refine rg ?_|refine xc ?_|refine nl ?_|refine sk ?_|refine bk ?_
 rw [Int.toNat_natCast]
 refine TC.loop (ι:=Int × Nat × List Nat) (fun k=>[(9,I k.1),(8,Un k.2.1)]) (fun k=>[own T64 o (Us k.2.2)]) (fun k=>k.2.2.length = a.length∧-1 ≤ k.1∧k.1 < a.length∧k.2.1 < x∧Dg k.2.2∧nv (a.drop (k.1 + 1).toNat) = nv (k.2.2.drop (k.1 + 1).toNat) * x + k.2.1) (fun k=>(k.1 + 1).toNat) ((a.length:Int) - 1,0,List.replicate a.length 0) [0,1,7] ⟨by simp,by dsimp only;omega,by dsimp only;omega,by dsimp only;omega,Dg.rep _,?_⟩ ?_
 ·dsimp only
  rw [show ((a.length:Int) - 1 + 1).toNat = a.length by omega,List.drop_eq_nil_of_le (Nat.le_refl _),List.drop_eq_nil_of_le (by simp)];simp [nv]
 ·rintro ⟨i,left,ys⟩ ⟨h1,h2,h2b,h3,hd,hI⟩
  dsimp only at h1 h2 h2b h3 hd hI ⊢
  by_cases hi:0 ≤ i
  ·obtain ⟨j,rfl⟩ : ∃ j:Nat,i = j:=⟨i.toNat,by omega⟩
   rw [show ((j:Int) + 1).toNat = j + 1 by omega] at hI
   have haj:=ha.getD j
   have hx0':0 < x:=by omega
   have hdm:=Nat.div_add_mod (left * 18446744073709551616 + a.getD j 0) x
   have hS:=part_step hI hdm.symm
   have hr:=Nat.mod_lt (left * 18446744073709551616 + a.getD j 0) hx0'
   have hq:(left * 18446744073709551616 + a.getD j 0) / x < 18446744073709551616:=by
    rw [Nat.div_lt_iff_lt_mul hx0']
    have:=Nat.mul_le_mul_right 18446744073709551616 h3
    rw [Nat.succ_mul,Nat.mul_comm x] at this
    omega
   rw [← nv_step] at hS
   obtain ⟨q,hqe⟩ : ∃ q,q = (left * 18446744073709551616 + a.getD j 0) / x:=⟨_,rfl⟩
   obtain ⟨r,hre⟩ : ∃ r,r = (left * 18446744073709551616 + a.getD j 0) % x:=⟨_,rfl⟩
   have hdv:div64 left (a.getD j 0) x = .tuple #[Un q,Un r]:=by rw [hqe,hre];rfl
   have hD:=Div64_tr left (a.getD j 0) x haj hx h3
   rw [hdv] at hD
   rw [← hqe,← hre] at hS
   rw [← hqe] at hq
   rw [← hre] at hr
   clear hdv hqe hre hdm hI
   repeat' first|(refine gca ?_;first|(refine ca hD ?_;rintro _ _ ⟨rfl,rfl⟩))|(refine wo ?_;first|(refine ao ?_;first|refine aw ?_|refine oa ?_)|refine lu ?_|refine sou ?_|refine oa ?_|refine ixmn ?_)|(refine gc ?_;first|refine ct ?_)|refine sq ?_|refine rg ?_|refine xc ?_|refine nl ?_|refine sk ?_|refine bk ?_|refine xb ?_
   exact lp ((j:Int) - 1,r,ys.set j q) ⟨by dsimp only;rw [List.length_set];exact h1,by dsimp only;omega,by dsimp only;omega,hr,hd.set hq,by dsimp only;rw [show ((j:Int) - 1 + 1).toNat = j by omega,nv_set_drop _ _ _ (by omega)];exact hS⟩
  ·obtain rfl:i = -1:=by omega
   rw [show ((-1:Int) + 1).toNat = 0 from rfl,List.drop_zero,List.drop_zero] at hI
   have e1:nv a / x = nv ys:=by rw [hI,Nat.add_comm,Nat.add_mul_div_right _ _ (by omega),Nat.div_eq_of_lt h3,Nat.zero_add]
   have e2:nv a % x = left:=by rw [hI,Nat.add_comm,Nat.add_mul_mod_self_right,Nat.mod_eq_of_lt h3]
   rw [e1,e2]
   repeat' first|(refine gca ?_;first|(refine ca (Trim_tr o ys hd (by omega)) ?_;rintro u _ ⟨hu,rfl⟩))|(refine wo ?_;first|(refine ao ?_;first|refine oa ?_)|refine oa ?_)|(refine gc ?_;first|refine cf ?_)|refine sq ?_|refine rg ?_|refine xc ?_|refine nl ?_|refine xe ?_|refine rt ?_
   exact r3 ⟨u,rfl,hu,rfl⟩
end Go.Art
namespace Go.Art
open Go Go.Proofs Go.RowKit
def gotoQ (l:Nat) (L:Act→World→Prop) (Q:Exit→Act→World→Prop):Exit→Act→World→Prop
 | .goto l',a,w=>l' = l∧L a w
 | e,a,w=>Q e a w
theorem wpIn_scopeG {F:Fence} {n:Nat} {P:Program} {Q:Exit→Act→World→Prop} {a:Act} {w:World} {c rest:Code} {l:Nat} (hl:findLabel c l = some rest) (G:Nat→Act→World→Prop) (h:c.wpIn F n P (gotoQ l (fun a w=>∃ j,G j a w) Q) a w)
  (round:∀ j a w,G j a w→rest.wpIn F n P (gotoQ l (fun a w=>∃ j',j' < j∧G j' a w) Q) a w):(Code.scope c).wpIn F n P Q a w:=by
 intro b k cs hro hb hr
 have h0:(lone (b.atR a (.code (.scope c) :: k)) cs w).fenced P F:=fenced_calm hb hr rfl
 have s1:step P (lone (b.atR a (.code (.scope c) :: k)) cs w) = .next (lone (b.atR a (.code c :: .inScope c :: k)) cs w):=step_lone_go (by simp [stepG,stepG.exec,Frame.atR])
 have s2:∀ (a:Act) (w:World),step P (lone (b.atR a (.inScope c :: k)) cs w) = .next (lone (b.atR a k) cs w):=fun a w=>step_lone_go (by simp [stepG,stepG.exec,Frame.atR])
 have hx:∀ id',exitTo id' (.inScope c :: k) = exitTo id' k:=fun id'=>by simp [exitTo]
 have hg:gotoIn l (.inScope c :: k) = some (.code rest :: .inScope c :: k):=by simp [gotoIn,hl]
 -- from inside the scope,by what is left of the jumps
 have fin:∀ (m:Machine) (e:Exit) (a₁:Act) (w₁:World),Q e a₁ w₁→(∀ t,e ≠ .goto t)→ArrivesIn (Machine.fenced P F) P m b (.inScope c :: k) cs e a₁ w₁→∃ e a' w',Q e a' w'∧ArrivesIn (Machine.fenced P F) P m b k cs e a' w':=by
  intro m e a₁ w₁ hq hne harr
  cases e with
  | normal=>exact ⟨.normal,a₁,w₁,hq,StepsIn.trans harr (.one (fenced_calm hb hr rfl) (s2 a₁ w₁))⟩
  | exit id'=>exact ⟨.exit id',a₁,w₁,hq,fun k' hk=>harr.1 k' (by rw [hx];exact hk),fun hr' hk=>harr.2 hr' (by rw [hx];exact hk)⟩
  | goto t=>exact absurd rfl (hne t)
  | ret=>exact ⟨_,a₁,w₁,hq,harr⟩
  | panic ch=>exact ⟨_,a₁,w₁,hq,harr⟩
  | outgrown=>exact ⟨_,a₁,w₁,hq,harr⟩
 have key:∀ j a w,G j a w→∃ e a' w',Q e a' w'∧ArrivesIn (Machine.fenced P F) P (lone (b.atR a (.code rest :: .inScope c :: k)) cs w) b k cs e a' w':=by
  intro j
  induction j using Nat.strongRecOn with
  | _ j ih=>
   intro a w hG
   obtain ⟨e,a₁,w₁,hq,harr⟩:=round j a w hG b (.inScope c :: k) cs hro hb hr
   cases e with
   | goto t=>
    obtain ⟨rfl,j',hlt,hG'⟩:=hq
    obtain ⟨e₂,a₂,w₂,hq₂,harr₂⟩:=ih j' hlt a₁ w₁ hG'
    exact ⟨e₂,a₂,w₂,hq₂,.of_steps (harr.1 _ hg) harr₂⟩
   | normal=>exact fin _ _ a₁ w₁ hq (fun _ h=>by cases h) harr
   | exit id=>exact fin _ _ a₁ w₁ hq (fun _ h=>by cases h) harr
   | ret=>exact fin _ _ a₁ w₁ hq (fun _ h=>by cases h) harr
   | panic ch=>exact fin _ _ a₁ w₁ hq (fun _ h=>by cases h) harr
   | outgrown=>exact fin _ _ a₁ w₁ hq (fun _ h=>by cases h) harr
 have start:∃ e a' w',Q e a' w'∧ArrivesIn (Machine.fenced P F) P (lone (b.atR a (.code c :: .inScope c :: k)) cs w) b k cs e a' w':=by
  obtain ⟨e,a₁,w₁,hq,harr⟩:=h b (.inScope c :: k) cs hro hb hr
  cases e with
  | goto t=>
   obtain ⟨rfl,j',hG'⟩:=hq
   obtain ⟨e₂,a₂,w₂,hq₂,harr₂⟩:=key j' a₁ w₁ hG'
   exact ⟨e₂,a₂,w₂,hq₂,.of_steps (harr.1 _ hg) harr₂⟩
  | normal=>exact fin _ _ a₁ w₁ hq (fun _ h=>by cases h) harr
  | exit id=>exact fin _ _ a₁ w₁ hq (fun _ h=>by cases h) harr
  | ret=>exact fin _ _ a₁ w₁ hq (fun _ h=>by cases h) harr
  | panic ch=>exact fin _ _ a₁ w₁ hq (fun _ h=>by cases h) harr
  | outgrown=>exact fin _ _ a₁ w₁ hq (fun _ h=>by cases h) harr
 obtain ⟨e,a',w',hq,harr⟩:=start
 exact ⟨e,a',w',hq,.of_steps (.one h0 s1) harr⟩
theorem den_goto {P:Program} {r:Option Nat} {Q:Exit→Act→World→Prop} {l:Nat} {a:Act} {w:World} (h:Q (.goto l) a w):∀ s:List K,den P r Q s (.goto l) a w
 | []=>h
 | .code _ :: s=>den_goto h s
 | .block _ :: s=>den_goto h s
 | .loop _ :: s=>den_goto h s
section
variable {P:Program} {E:Env P} {n:Sh} {X:Cx} {s:List K} {fr:Fr} {A F:List Ch} {c B:Code} {e:Exit}
def GoL (n:Sh) (X:Cx) {ι:Type} (inv:ι→Fr) (J:ι→List Ch) (I:ι→Prop) (a:Act) (w:World):Prop:=∃ i,I i∧Holds n a (inv i)∧St X (J i) w
theorem TC.scopeG {ι:Type} (inv:ι→Fr) (J:ι→List Ch) (I:ι→Prop) (μ:ι→Nat) {l:Nat}
  (h2:∀ i,I i→TC E n ⟨gotoQ l (LoopT n X inv J I μ i) (den P n.r X.Q s),X.w0,X.A0⟩ [] B (inv i) (J i))
  (h1:(∀ i,I i→∀ fr2 A2,Sub (inv i) fr2→∀ {G},Fit A2 (J i) G→TC E n ⟨gotoQ l (GoL n X inv J I) (den P n.r X.Q s),X.w0,X.A0⟩ [] (.seq (.label l) B) fr2 A2)→TC E n ⟨gotoQ l (GoL n X inv J I) (den P n.r X.Q s),X.w0,X.A0⟩ [] c fr A)
  (hl:findLabel c l = some (.seq .skip B):=by rfl):TC E n X s (.scope c) fr A:=by
 have hm:∀ i,∀ e a w,gotoQ l (LoopT n X inv J I μ i) (den P n.r X.Q s) e a w→gotoQ l (GoL n X inv J I) (den P n.r X.Q s) e a w:=fun i e a w h=>by
  cases e with
  | goto t=>exact ⟨h.1,by obtain ⟨i',h1,h2,h3,_⟩:=h.2;exact ⟨i',h1,h2,h3⟩⟩
  | _=>exact h
 have h1':=h1 fun i hI fr2 A2 hs G hf=>⟨fun w hw=>⟨fun a ha=>wpIn_seq (wpIn_label (wpIn_mono ((h2 i hI).run w ((⟨hw.sat,hw.mv⟩ : St X A2 w).im (Im.trans hf (Im.drop _ _)) |> fun h=>⟨h.sat,h.mv⟩) |>.run a (ha.sub hs)) (hm i)))⟩⟩
 refine ⟨fun w hw=>⟨fun a ha=>wpIn_scopeG hl (fun j a w=>∃ i,μ i = j∧I i∧Holds n a (inv i)∧St X (J i) w) (wpIn_mono ((h1'.run w ⟨hw.sat,hw.mv⟩).run a ha) ?_) ?_⟩⟩
 ·intro e a w h
  cases e with
  | goto t=>exact ⟨h.1,by obtain ⟨i,h1,h2,h3⟩:=h.2;exact ⟨μ i,i,rfl,h1,h2,h3⟩⟩
  | _=>exact h
 ·rintro j a w ⟨i,rfl,hI,hH,hS⟩
  refine wpIn_seq (wpIn_skip (wpIn_mono (((h2 i hI).run w ⟨hS.sat,hS.mv⟩).run a hH) ?_))
  intro e a w h
  cases e with
  | goto t=>exact ⟨h.1,by obtain ⟨i',h1,h2,h3,h4⟩:=h.2;exact ⟨μ i',h4,i',rfl,h1,h2,h3⟩⟩
  | _=>exact h
theorem gto {ι:Type} {inv:ι→Fr} {J:ι→List Ch} {I:ι→Prop} {μ:ι→Nat} {l:Nat} {Q:Exit→Act→World→Prop} {i:ι} {G:List Ch} (i':ι) (h:I i') (hs:Sub (inv i') fr:=by (repeat (refine Sub.cons rfl (by first | rfl | go_num) ?_));exact Sub.nil) (hf:Fit A (J i') G:=by exact fitA) (hlt:μ i' < μ i:=by first | omega | (dsimp only;omega)) :
  TC E n ⟨gotoQ l (LoopT n X inv J I μ i) Q,X.w0,X.A0⟩ s (.goto l) fr A:=
 ⟨fun w hw=>⟨fun a ha=>wpIn_goto (den_goto ⟨rfl,i',h,ha.sub hs,(⟨hw.sat,hw.mv⟩ : St X A w).im (Im.trans hf (Im.drop _ _)),hlt⟩ s)⟩⟩
theorem scg {l:Nat} {L:Act→World→Prop} (he:∀ Q a w,gotoQ l L Q e a w = Q e a w) (h:TX E n X s e fr A):TX E n ⟨gotoQ l L (den P n.r X.Q s),X.w0,X.A0⟩ [] e fr A:=
 ⟨fun w hw=>⟨fun a ha=>(he _ a w).mpr ((h.run w ⟨hw.sat,hw.mv⟩).run a ha)⟩⟩
end
end Go.Art
namespace Go.Art
open Go Go.Proofs Go.RowKit
def stepL (ys:List Nat) (j n:Nat) (r:List Nat):List Nat:=ys.take j ++ r ++ List.replicate (n + 1 - r.length) 0 ++ ys.drop (j + n + 1)
theorem stepL_facts {ys r:List Nat} {j n:Nat} (hr:r.length ≤ n + 1) (hj:j + n + 1 ≤ ys.length) (hd:Dg ys) (hdr:Dg r) :
  (stepL ys j n r).length = ys.length∧Dg (stepL ys j n r)∧nv (stepL ys j n r) = nv (ys.take j) + 18446744073709551616 ^ j * (nv r + 18446744073709551616 ^ (n + 1) * nv (ys.drop (j + n + 1)))∧nv ((stepL ys j n r).drop j) = nv r + 18446744073709551616 ^ (n + 1) * nv (ys.drop (j + n + 1)):=by
 have e1:nv (r ++ List.replicate (n + 1 - r.length) 0 ++ ys.drop (j + n + 1)) = nv r + 18446744073709551616 ^ (n + 1) * nv (ys.drop (j + n + 1)):=by
  rw [nv_app,nv_app,nv_rep,Nat.mul_zero,Nat.add_zero,List.length_append,List.length_replicate,show r.length + (n + 1 - r.length) = n + 1 by omega]
 have e2:stepL ys j n r = ys.take j ++ (r ++ List.replicate (n + 1 - r.length) 0 ++ ys.drop (j + n + 1)):=by unfold stepL;simp only [List.append_assoc]
 have hl:(ys.take j).length = j:=by rw [List.length_take];omega
 refine ⟨?_,?_,?_,?_⟩
 ·unfold stepL;simp;omega
 ·exact (((hd.take j).app hdr).app (Dg.rep _)).app (hd.drop _)
 ·rw [e2,nv_app,e1,hl]
 ·rw [e2,List.drop_left' hl,e1]
theorem win_facts {ys:List Nat} {j n:Nat} (hj:j + n + 1 ≤ ys.length):nv ys = nv (ys.take j) + 18446744073709551616 ^ j * (nv ((ys.take (j + n + 1)).drop j) + 18446744073709551616 ^ (n + 1) * nv (ys.drop (j + n + 1))):=by
 have h1:=nv_cut ys j
 have h2:=nv_cut (ys.drop j) (n + 1)
 rw [List.drop_drop,List.take_drop,show j + (n + 1) = j + n + 1 by omega] at h2
 rw [h1,h2]
theorem guess_ok {w V u1 u0 t n low vlow:Nat} (hw:w = (u1 * 18446744073709551616 + u0) * 18446744073709551616 ^ n + low) (hlow:low < 18446744073709551616 ^ n) (hV:V = t * 18446744073709551616 ^ n + vlow) (ht:0 < t):w / V ≤ (u1 * 18446744073709551616 + u0) / t:=by
 have hp:0 < 18446744073709551616 ^ n:=Nat.pow_pos (by decide)
 have h1:w / V ≤ w / (t * 18446744073709551616 ^ n):=Nat.div_le_div_left (by omega) (Nat.mul_pos ht hp)
 have h2:w / (t * 18446744073709551616 ^ n) = (u1 * 18446744073709551616 + u0) / t:=by
  rw [Nat.mul_comm t,← Nat.div_div_eq_div_mul,hw,Nat.mul_comm _ (18446744073709551616 ^ n),Nat.mul_add_div hp,Nat.div_eq_of_lt hlow,Nat.add_zero]
 omega
theorem Im.drop' {c:Ch} {A:List Ch}:Im (c :: A) A:=Im.trans (Im.perm (List.perm_append_comm (l₁:=[c]) (l₂:=A))) (Im.drop A [c])
attribute [local irreducible] Fit pt own ro vw mpc lpt vels rels mow lrc dfr
set_option maxHeartbeats 2000000 in
theorem step_tr (o vv:Value) (ys v:List Nat) (j:Nat) (hd:Dg ys) (hv:Dg v) (hvl:2 ≤ v.length) (htop:v.getD (v.length - 1) 0 ≠ 0) (hj:j + v.length + 1 ≤ ys.length) (hyl:ys.length ≤ 1099511627776) (hw:nv ((ys.take (j + v.length + 1)).drop j) < nv v * 18446744073709551616) :
  Tr Tryz.prog 254 [slSub o j (j + v.length + 1),vv] [vw vv (Us v)] [own T64 o (Us ys)] fun u D=>u = Un (nv ((ys.take (j + v.length + 1)).drop j) / nv v)∧D = [own T64 o (Us (stepL ys j v.length (dg (nv ((ys.take (j + v.length + 1)).drop j) % nv v))))]:=by
 have hh:Has [own T64 o (Us ys),vw vv (Us v)] (vw (slSub o j (j + v.length + 1)) (Us ((ys.take (j + v.length + 1)).drop j))):=has_subu (has_own (List.Mem.head _)) (by omega) hj
 have hwd:Dg ((ys.take (j + v.length + 1)).drop j):=hd.sub _ _
 have hwl:((ys.take (j + v.length + 1)).drop j).length = v.length + 1:=by rw [List.length_drop,List.length_take];omega
 obtain ⟨uv,huv⟩ : ∃ uv,uv = slSub o j (j + v.length + 1):=⟨_,rfl⟩
 obtain ⟨win,hwin⟩ : ∃ win,win = (ys.take (j + v.length + 1)).drop j:=⟨_,rfl⟩
 rw [← huv] at hh ⊢
 rw [← hwin] at hh hwd hwl hw ⊢
 -- the digits that the guess is made of
 obtain ⟨u1,eu1⟩ : ∃ u1,win.getD v.length 0 = u1:=⟨_,rfl⟩
 obtain ⟨u0,eu0⟩ : ∃ u0,win.getD ((v.length:Int) - 1).toNat 0 = u0:=⟨_,rfl⟩
 obtain ⟨t,et⟩ : ∃ t,v.getD ((v.length:Int) - 1).toNat 0 = t:=⟨_,rfl⟩
 have hn1:((v.length:Int) - 1).toNat = v.length - 1:=by omega
 have bu1:u1 < 18446744073709551616:=by rw [← eu1];exact hwd.getD _
 have bu0:u0 < 18446744073709551616:=by rw [← eu0];exact hwd.getD _
 have bt:t < 18446744073709551616:=by rw [← et];exact hv.getD _
 have ht0:t ≠ 0:=by rw [← et,hn1];exact htop
 have hV0:0 < nv v:=by
  refine Nat.pos_of_ne_zero fun h=>ht0 ?_
  rw [← et,hn1,List.getD_eq_getElem?_getD,List.getElem?_eq_getElem (by omega)]
  exact nv_zero h _ (List.getElem_mem _)
 have hVb:=nv_lt hv
 have hQb:nv win / nv v < 18446744073709551616:=by rw [Nat.div_lt_iff_lt_mul hV0,Nat.mul_comm];exact hw
 have hG:u1 < t→nv win / nv v ≤ (u1 * 18446744073709551616 + u0) / t:=fun _=>by
  refine guess_ok (n:=v.length - 1) (low:=nv (win.take (v.length - 1))) (vlow:=nv (v.take (v.length - 1))) ?_ (nv_low hwd _) ?_ (by omega)
  ·rw [nv_cut win (v.length - 1),nv_step,nv_step,show v.length - 1 + 1 = v.length by omega,List.drop_eq_nil_of_le (by omega),← hn1,eu0,eu1]
   simp only [nv,Nat.mul_zero,Nat.add_zero]
   rw [Nat.mul_comm (u1 * 18446744073709551616 + u0),Nat.mul_comm u1,Nat.add_comm u0];exact Nat.add_comm _ _
  ·rw [nv_cut v (v.length - 1),nv_step,List.drop_eq_nil_of_le (by omega),← hn1,et]
   simp only [nv,Nat.mul_zero,Nat.add_zero]
   rw [Nat.mul_comm t];exact Nat.add_comm _ _
 have hGb:u1 < t→(u1 * 18446744073709551616 + u0) / t < 18446744073709551616:=fun h=>by
  rw [Nat.div_lt_iff_lt_mul (by omega)]
  have:=Nat.mul_le_mul_right 18446744073709551616 h
  rw [Nat.succ_mul,Nat.mul_comm t] at this
  omega
 have hrl:(dg (nv win % nv v)).length ≤ v.length:=(dg_len _ _).2 (Nat.lt_trans (Nat.mod_lt _ hV0) hVb)
 have hdm:=Nat.div_add_mod (nv win) (nv v)
 obtain ⟨Q,hQ⟩ : ∃ Q,Q = nv win / nv v:=⟨_,rfl⟩
 obtain ⟨r,hr⟩ : ∃ r,r = nv win % nv v:=⟨_,rfl⟩
 rw [← hQ] at hQb hG hdm ⊢
 rw [← hr] at hrl hdm ⊢
 have hrV:r < nv v:=by rw [hr];exact Nat.mod_lt _ hV0
 have hle:∀ g,nv v * g ≤ nv win→g ≤ Q:=fun g h=>by rw [hQ,Nat.le_div_iff_mul_le hV0,Nat.mul_comm];exact h
 clear hQ hr hwin
 refine Tr.enter env _ Tryz.func254 (by kernel_rfl) rfl Tryz.ntmps254 rfl (by repeat (first | exact has00 | refine has01 ?_)) fun w0=>?_
 refine TC.im (B:=[own T64 o (Us ys),vw vv (Us v)]) (Im.perm (List.Perm.swap _ _ _)) ?_
 repeat' first|(refine wo ?_;first|refine oa ?_)|refine sq ?_|refine rg ?_|refine xc ?_|refine nl ?_
 refine TC.scopeG (ι:=Nat × Value) (l:=0) (fun i=>[(0,uv),(1,vv),(5,I v.length),(6,Un i.1),(7,i.2)]) (fun i=>[own T64 i.2 (Us (dg (nv v * i.1))),own T64 o (Us ys),vw vv (Us v)]) (fun i=>Q ≤ i.1∧i.1 < 18446744073709551616∧i.2.oneCell' = true) (fun i=>i.1) ?_ (fun kb=>?_)
 ·rintro ⟨g,p⟩ ⟨h1,h2,h3⟩
  dsimp only at h1 h2 h3 ⊢
  have hpn:nv (dg (nv v * g)) = nv v * g:=nv_dg _
  have hpd:Dg (dg (nv v * g)):=Dg_dg _
  have hpl:(dg (nv v * g)).length ≤ 1099511627776:=Nat.le_trans ((dg_len _ (v.length + 1)).2 (by rw [Nat.pow_succ];exact Nat.mul_lt_mul'' hVb h2)) (by omega)
  have hh2:Has [own T64 p (Us (dg (nv v * g))),own T64 o (Us ys),vw vv (Us v)] (vw uv (Us win)):=hh.mono Im.drop'
  have hCmp:=Cmp_tr p uv (dg (nv v * g)) win hpd hwd
  rw [hpn] at hCmp
  by_cases hgt:nv win < nv v * g
  ·have hc:¬ cmpN (nv v * g) (nv win) < 0∧cmpN (nv v * g) (nv win) ≠ 0:=⟨by rw [cmpN_lt];omega,by rw [Ne,cmpN_eq];omega⟩
   have hg1:1 ≤ g:=by
    rcases Nat.eq_zero_or_pos g with h | h
    ·rw [h,Nat.mul_zero] at hgt;omega
    ·exact h
   have hQg:Q ≤ g - 1:=by
    rcases Nat.lt_or_ge Q g with h | h
    ·omega
    ·obtain rfl:Q = g:=by omega
     omega
   have hsb:nv v * g - nv v = nv v * (g - 1):=by rw [Nat.mul_sub,Nat.mul_one]
   have hSub:=NSub_tr p vv (dg (nv v * g)) v hpd hv hpl (by omega) (by rw [hpn];exact Nat.le_mul_of_pos_right _ hg1)
   rw [hpn,hsb] at hSub
   clear hgt hsb
   repeat' first|(refine gca ?_;first|(refine ca hCmp ?_;rintro _ _ ⟨rfl,rfl⟩;refine TO.im (B:=[own T64 p (Us (dg (nv v * g))),own T64 o (Us ys),vw vv (Us v)]) (Im.refl _) ?_)|(refine ca hSub ?_;rintro _ _ ⟨p2,rfl,hp2,rfl⟩))|(refine wo ?_;first|(refine ao ?_;first|(refine nao ?_;first|refine nsb ?_)|(refine naou ?_;first|refine nsb ?_)|refine oa ?_)|refine oa ?_)|(refine gc ?_;first|(refine ci (fun hB=>?_) (fun hB=>?_) <;> try (exfalso;omega)))|refine sq ?_|refine rg ?_|refine xc ?_|refine nl ?_
   exact gto (g - 1,p2) ⟨hQg,by omega,hp2⟩
  ·obtain rfl:g = Q:=Nat.le_antisymm (hle g (by omega)) h1
   have hc:¬ 0 < cmpN (nv v * g) (nv win):=by unfold cmpN;split <;> (try split) <;> omega
   have hsb:nv win - nv v * g = r:=by omega
   have hSub:=NSub_tr uv p win (dg (nv v * g)) hwd hpd (by omega) hpl (by rw [hpn];omega)
   rw [hpn,hsb] at hSub
   obtain ⟨y1,hy1⟩ : ∃ y1,y1 = ys.take j ++ List.replicate (v.length + 1) 0 ++ ys.drop (j + v.length + 1):=⟨_,rfl⟩
   have hl1:(ys.take j).length = j:=by rw [List.length_take];omega
   have hy1l:y1.length = ys.length:=by rw [hy1];simp;omega
   have eq1:(Us ys).take j ++ List.replicate (j + v.length + 1 - j) (Un 0) ++ (Us ys).drop (j + v.length + 1) = Us y1:=by
    rw [Us_rep,Us_take,Us_drop,← Us_app,← Us_app,hy1,show j + v.length + 1 - j = v.length + 1 by omega]
   have eq2:(Us y1).take j ++ Us (dg r) ++ (Us y1).drop (j + (Us (dg r)).length) = Us (stepL ys j v.length (dg r)):=by
    rw [Us_len,Us_take,Us_drop,← Us_app,← Us_app,stepL,hy1]
    simp only [List.append_assoc]
    rw [List.take_left' hl1,← List.drop_drop,List.drop_left' hl1,List.drop_append_of_le_length (by rw [List.length_replicate];omega),List.drop_replicate]
   have hcl:j + (Us (dg r)).length ≤ j + v.length + 1:=by rw [Us_len];omega
   have hyu:j + v.length + 1 ≤ (Us ys).length:=by rw [Us_len];omega
   have hyu1:j + v.length + 1 ≤ (Us y1).length:=by rw [Us_len];omega
   clear hsb hgt hdm
   repeat' first|(refine gca ?_;first|(refine ca hCmp ?_;rintro _ _ ⟨rfl,rfl⟩;refine TO.im (B:=[own T64 p (Us (dg (nv v * g))),own T64 o (Us ys),vw vv (Us v)]) (Im.refl _) ?_)|(refine ca hSub ?_ (hs:=Fit.nil) (hp:=has1 hh2 (has1 (has_own (List.Mem.head _)) has0));rintro _ _ ⟨p2,rfl,hp2,rfl⟩))|(refine clr (a:=o) (lo:=j) (hi:=j + v.length + 1) (xs:=Us ys) (z:=Un 0) ?_ (by rw [← huv];rfl) (hlo:=by omega) (hhi:=hyu);rw [eq1])|(refine cps (a:=o) (lo:=j) (hi:=j + v.length + 1) (xs:=Us y1) (cs:=Us (dg r)) ?_ (by rw [← huv];rfl) (hlo:=by omega) (hhi:=hyu1) (hcs:=hcl) (h1:=Us_one _);rw [eq2])|(refine wo ?_;first|(refine ao ?_;first|refine oa ?_)|refine oa ?_)|(refine gc ?_;first|(refine ci (fun hB=>?_) (fun hB=>?_) <;> try (exfalso;omega)))|refine sq ?_|refine rg ?_|refine xc ?_|refine nl ?_|refine sk ?_|refine rt ?_
   exact scg (fun _ _ _=>rfl) (r1 ⟨rfl,rfl⟩)
 ·repeat' first|refine sq_cutX (a:=.seq (.region 3 _ _) _) (ι:=Nat) (fun g=>Q ≤ g∧g < 18446744073709551616) (fun g=>[(0,uv),(1,vv),(5,I v.length),(6,Un g)]) (fun _=>[own T64 o (Us ys),vw vv (Us v)]) ?_ (fun kc=>?_)|(refine wo ?_;first|refine oa ?_|refine lnm ?_)|refine sq ?_|refine rg ?_|refine xc ?_|refine nl ?_
  ·rintro g ⟨h1,h2⟩
   repeat' first|(refine gca ?_;first|(refine ca (NGrow_tr vv v g hv h2 (by omega)) ?_;rintro p _ ⟨hp,rfl⟩))|exact kb (g,p) ⟨h1,h2,hp⟩ _ _ (by (repeat (refine Sub.cons rfl (by first | rfl | go_num) ?_));exact Sub.nil) fitA|(refine wo ?_;first|refine oa ?_)|refine sq ?_|refine rg ?_|refine xc ?_|refine nl ?_
  ·repeat' first|refine rs (id:=4) (fun w=>Sl w uv (Us win)∧Sl w vv (Us v)) ?_ (fun w hw=>⟨has_sl (A:=[own T64 o (Us ys),vw vv (Us v)]) hw hh,vw_sl (hw.h (vw vv (Us v)) memA)⟩)|exact kc 18446744073709551615 ⟨by omega,by decide⟩ _ _ (by (repeat (refine Sub.cons rfl (by first | rfl | go_num) ?_));exact Sub.nil) fitA|(refine gc ?_;first|(refine ci (fun hB=>?_) (fun hB=>?_) <;> try (exfalso;omega)))|refine xc ?_|refine sk ?_|refine rq ?_|refine nq ?_|(refine wq ?_;first|(refine qao ?_;first|refine qaw ?_|refine qa ?_)|refine qlu ?_|refine qa ?_|refine qixmn ?_|refine qixm ?_)
   have hlt:u1 < t:=by omega
   refine tka 0 ?_
   refine tka 1 ?_
   refine tk 2 (v:=.pointer (some (addrAt uv v.length))) (fun w h=>R_idx (E:=env) (i:=(v.length:Int)) rfl rfl rfl rfl h.1 ⟨Int.natCast_nonneg _,by rw [Us_len];omega⟩) ?_
   refine tke 3 (v:=Un u1) (by rw [eu1]) (fun w h=>R_load (E:=env) (v:=Un (win.getD v.length 0)) rfl rfl rfl (h.1.cell (Us_get win v.length (by omega)))) ?_
   refine tka 4 ?_
   refine tka 5 ?_
   refine tkw 6 ((v.length:Int) - 1) ?_
   refine tk 7 (v:=.pointer (some (addrAt uv ((v.length:Int) - 1).toNat))) (fun w h=>R_idx (E:=env) (i:=(v.length:Int) - 1) rfl rfl rfl rfl h.1 ⟨by omega,by rw [Us_len];omega⟩) ?_
   refine tke 8 (v:=Un u0) (by rw [eu0]) (fun w h=>R_load (E:=env) (v:=Un (win.getD ((v.length:Int) - 1).toNat 0)) rfl rfl rfl (h.1.cell (Us_get win ((v.length:Int) - 1).toNat (by omega)))) ?_
   refine tka 9 ?_
   refine tka 10 ?_
   refine tkw 11 ((v.length:Int) - 1) ?_
   refine tk 12 (v:=.pointer (some (addrAt vv ((v.length:Int) - 1).toNat))) (fun w h=>R_idx (E:=env) (i:=(v.length:Int) - 1) rfl rfl rfl rfl h.2 ⟨by omega,by rw [Us_len];omega⟩) ?_
   refine tke 13 (v:=Un t) (by rw [et]) (fun w h=>R_load (E:=env) (v:=Un (v.getD ((v.length:Int) - 1).toNat 0)) rfl rfl rfl (h.2.cell (Us_get v ((v.length:Int) - 1).toNat (by omega)))) ?_
   refine t1 14 ?_
   refine ca (Div64_tr u1 u0 t bu0 bt hlt) ?_
   rintro _ _ ⟨rfl,rfl⟩
   refine nl ?_
   refine te (fun w hw=>⟨has_sl (A:=[own T64 o (Us ys),vw vv (Us v)]) hw hh,vw_sl (hw.h (vw vv (Us v)) memA)⟩) ?_
   refine tka 15 ?_
   refine tka 16 ?_
   refine tka 17 ?_
   refine tka 18 ?_
   refine t0 ?_
   refine xc ?_
   exact kc ((u1 * 18446744073709551616 + u0) / t) ⟨hG hlt,hGb hlt⟩ _ _ (by (repeat (refine Sub.cons rfl (by first | rfl | go_num) ?_));exact Sub.nil) fitA
end Go.Art
namespace Go.Art
open Go Go.Proofs Go.RowKit
section
variable {P:Program}
theorem run_room_z (w:World) (t tn ty e:TypeId) (i:TypeInfo) (z:Value) (k kn:IntKind) (ht:P.underlying t = some (.slice e)) (htn:P.underlying tn = some (.int kn)) (hi:P.info? e = some i) (hz:i.zero = some z) (hs:i.size = 1) (hz1:z.cells = #[z]) (ho:z.oneCell' = true)
  (g o sLen sCap:Nat) (cur:Array Value) (hg:w.heap[g]? = some (.cells cur e (0,0))) (n:Nat) (h0:0 < n) (h63:(n:Int) ≤ 9223372036854775807) (h48:n * i.bytes ≤ 281474976710656) (hroom:sLen + n ≤ sCap) (hfit:o + sLen + n ≤ cur.size) :
  (Builtin.append_ #[t,tn] ty #[.slice (some ⟨g,o,none⟩) sLen sCap,.int k n]).run P w =
   .ok (.slice (some ⟨g,o,none⟩) (sLen + n) sCap) (w.setRow g (cur.toList.take (o + sLen) ++ List.replicate n z ++ cur.toList.drop (o + sLen + n)).toArray):=by
 have hw:IntKind.i64.wrap (n:Int) = n:=by rw [IntKind.wrap_i64];omega
 have h48i:¬ (281474976710656 < (n:Int) * (i.bytes:Int)):=by rw [← Int.natCast_mul];omega
 have hneg:¬ ((n:Int) < 0):=by omega
 have hns:n ≠ 0:=by omega
 have hst:=run_storeCells_at P g (o + sLen) e (List.replicate n z) 0 cur w hg (by simpa using hfit) (fun c hc=>by rw [List.eq_of_mem_replicate hc];exact ho)
 simp only [Nat.add_zero,List.length_replicate] at hst
 simp [Builtin.append_,run_underlying ht,run_underlying htn,sizeOf,typeInfo,zeroValue,hi,hz,hz1,hs,zeroCells1,asInt,asIntOf,hw,hneg,hns,h48i,hroom,Addr.add_lit,hst]
theorem run_same_z (w:World) (t tn ty e:TypeId) (i:TypeInfo) (k kn:IntKind) (ht:P.underlying t = some (.slice e)) (htn:P.underlying tn = some (.int kn)) (hi:P.info? e = some i) (b:Option Addr) (sLen sCap:Nat) (hle:sLen ≤ sCap) :
  (Builtin.append_ #[t,tn] ty #[.slice b sLen sCap,.int k 0]).run P w = .ok (.slice b sLen sCap) w:=by
 have hw:IntKind.i64.wrap 0 = 0:=by rw [IntKind.wrap_i64];omega
 cases b <;> simp [Builtin.append_,run_underlying ht,run_underlying htn,sizeOf,typeInfo,hi,asInt,asIntOf,hw,hle,storeCells]
theorem run_grow_z (w:World) (t tn ty e:TypeId) (i:TypeInfo) (z:Value) (k kn:IntKind) (ht:P.underlying t = some (.slice e)) (htn:P.underlying tn = some (.int kn)) (hi:P.info? e = some i) (hz:i.zero = some z) (hs:i.size = 1) (hz1:z.cells = #[z])
  (b:Addr) (sLen sCap:Nat) (olds:List Value) (hlo:olds.length = sLen * i.size) (holds:∀ j v,olds[j]? = some v→w.cell? (b.add j) = some v) (n:Nat) (h0:0 < n) (h63:((sLen + n:Nat):Int) ≤ 9223372036854775807) (h48:n * i.bytes ≤ 281474976710656) (hg:sCap < sLen + n) (hfit:Builtin.nextslicecap (sLen + n) sCap * i.bytes ≤ 281474976710656) :
  (Builtin.append_ #[t,tn] ty #[.slice (some b) sLen sCap,.int k n]).run P w =
   .ok (.slice (some ⟨w.heap.size,0,none⟩) (sLen + n) (grownCap w (sLen + n) sCap e)) (w.drew.alloc (.cells (olds.toArray ++ (List.replicate n z).toArray ++ (List.replicate (grownCap w (sLen + n) sCap e - (sLen + n)) z).toArray) e)):=by
 have hn:¬ (sLen + n ≤ sCap):=by omega
 have hw:IntKind.i64.wrap (n:Int) = n:=by rw [IntKind.wrap_i64];omega
 have h48i:¬ (281474976710656 < (n:Int) * (i.bytes:Int)):=by rw [← Int.natCast_mul];omega
 have hneg:¬ ((n:Int) < 0):=by omega
 have hns:n ≠ 0:=by omega
 have h63':¬ (9223372036854775807 < ((sLen:Int) + (n:Int))):=by omega
 have h48':¬ (281474976710656 < Builtin.nextslicecap (sLen + n) sCap * i.bytes):=by omega
 have hfo:=run_firstCells_some (P:=P) w.drew i.size sLen b sLen sCap olds hlo (by simpa using holds)
 rw [hs] at hfo
 simp [Builtin.append_,run_underlying ht,run_underlying htn,sizeOf,typeInfo,zeroValue,hi,hz,hz1,hs,zeroCells1,asInt,asIntOf,hw,hneg,hns,h48i,hn,h63',h48',Question.forced,hfo,newRow,grownCap]
variable {E:Env P} {n:Sh} {X:Cx} {s:List K} {fr:Fr} {A A':List Ch} {ops:Array Oper} {rest:List Oper} {d:Nat} {ty t t':TypeId} {pos:String} {after:Array Edge} {x y:Operand} {w:World} {v u z:Value} {by_:Nat} {xs:List Value} {e:TypeId} {k1 kn:IntKind} {m:Int}
theorem run_appendZ (t0:TypeId) (w:World) (ht:lk E.und t = some (.slice e)) (htn:lk E.und t' = some (.int kn)) (he:lk E.inf e = some (z,1,by_)) (hz:z.cells = #[z]) (hz1:z.oneCell' = true) (hown:OwnO w e v xs) {k:Nat} (hl:xs.length + k ≤ 17592186044416) (hb:by_ ≤ 8) :
  ∃ v' w',(Builtin.append_ #[t,t'] t0 #[v,.int k1 k]).run P w = .ok v' w'∧OwnO w' e v' (xs ++ List.replicate k z)∧Upd w w' v.ownBlock.toList∧∀ b,v'.ownBlock = some b→v.ownBlock = some b∨w.heap.size ≤ b:=by
 obtain ⟨inf,hi,hiz,his,hib⟩:=E.info he
 have hk8:k * inf.bytes ≤ 281474976710656:=by rw [hib];have:=Nat.mul_le_mul (show k ≤ 17592186044416 by omega) hb;omega
 have hl8:(xs.length + k) * by_ ≤ 140737488355328:=by have:=Nat.mul_le_mul hl hb;omega
 rcases Nat.eq_zero_or_pos k with rfl | hpos
 ·rw [List.replicate_zero,List.append_nil]
  obtain ⟨a,c,rfl,hc,_⟩:=hown.sl
  exact ⟨_,w,run_same_z w t t' t0 e inf k1 kn (E.un ht) (E.un htn) hi a xs.length c hc,hown,Upd.refl _ _,fun _ h=>.inl h⟩
 ·have hupd:∀ (o:Obj) (S:List Nat),Upd w (w.drew.alloc o) S:=fun o S=>((Upd.drew w).trans (Upd.alloc w.drew o)).weak (by simp)
  rcases hown with ⟨rfl,rfl⟩ | ⟨g,o,cap,cur,rfl,hg,h2,h3,h4,h5⟩
  ·have hr:=Lib.run_append_nil_zeros (P:=P) w t t' t0 e inf z k1 kn (E.un ht) (E.un htn) hi hiz k hpos (by rw [his];decide) (by omega) hk8
   have hge:=grownCap_ge w k 0 e
   refine ⟨_,_,hr,.inr ⟨w.heap.size,0,grownCap w k 0 e,_,by simp,heap_alloc_new w.drew _,by simpa using hge,grownCap_le_maxLen w k 0 e (by unfold maxLen;omega),?_,?_⟩,hupd _ _,fun b hb=>.inr (by cases hb;exact Nat.le_refl _)⟩
   ·rw [hz,zeroCells1,zeroCells1];simp;omega
   ·rw [hz,zeroCells1,zeroCells1];simp
  ·by_cases hroom:xs.length + k ≤ cap
   ·have hr:=run_room_z w t t' t0 e inf z k1 kn (E.un ht) (E.un htn) hi hiz his hz hz1 g o xs.length cap cur hg k hpos (by omega) hk8 hroom (by omega)
    refine ⟨_,_,hr,.inr ⟨g,o,cap,_,by simp,setRow_heap w g cur _ e _ hg,by simpa using hroom,h3,?_,?_⟩,Upd.setRow w g _,fun _ h=>.inl h⟩
    ·simp only [List.size_toArray,List.length_append,List.length_take,List.length_drop,Array.length_toList,List.length_replicate];omega
    ·have hcl:cur.toList.length = cur.size:=Array.length_toList
     rw [List.append_assoc,List.drop_append_of_le_length (by rw [List.length_take,hcl];omega),show List.drop o (List.take (o + xs.length) cur.toList) = List.take xs.length (List.drop o cur.toList) by rw [List.drop_take,Nat.add_sub_cancel_left]]
     rw [h5,← List.append_assoc]
     exact List.take_left
   ·have hsl:Sl w (.slice (some ⟨g,o,none⟩) xs.length cap) xs:=OwnO.sl (.inr ⟨g,o,cap,cur,rfl,hg,h2,h3,h4,h5⟩)
    have hr:=run_grow_z w t t' t0 e inf z k1 kn (E.un ht) (E.un htn) hi hiz his hz ⟨g,o,none⟩ xs.length cap xs (by rw [his,Nat.mul_one]) (fun j c hj=>hsl.cell hj) k hpos (by omega) hk8 (by omega) (by subst hib;exact growslice_fits (by omega) hl8)
    have hge:=grownCap_ge w (xs.length + k) cap e
    refine ⟨_,_,hr,.inr ⟨w.heap.size,0,grownCap w (xs.length + k) cap e,_,by simp,heap_alloc_new w.drew _,by simpa using hge,grownCap_le_maxLen w _ _ e (by unfold maxLen;omega),?_,?_⟩,hupd _ _,fun b hb=>.inr (by cases hb;exact Nat.le_refl _)⟩
    ·simp;omega
    ·simp only [Array.toList_append,List.append_assoc,List.drop_zero]
     rw [← List.append_assoc]
     exact List.take_left
theorem apzo {k:Nat} (kk:∀ v',TO E n X s ops rest ((d,v') :: fr) (own e v' (xs ++ List.replicate k z) :: A')) (hx:ev fr x = some v:=by rfl) (hy:ev fr y = some (.int k1 (k:Int)):=by rfl) (hm:Tk (own e v xs) A A':=by exact tkA) (hl:xs.length + k ≤ 17592186044416:=by omega)
  (ht:lk E.und t = some (.slice e):=by rfl) (htn:lk E.und t' = some (.int kn):=by rfl) (he:lk E.inf e = some (z,1,by_):=by rfl) (hz:z.cells = #[z]:=by rfl) (hz1:z.oneCell' = true:=by rfl) (hb:by_ ≤ 8:=by decide) (hd:Nat.blt d n.n = true:=by rfl) :
  TO E n X s ops (⟨some d,.call ⟨.builtin .append,#[x,y],#[t,t']⟩,ty,pos,after,none⟩ :: rest) fr A:=⟨fun w hw=>by
 have h2:=hw.im hm
 have h3:OwnO w e v xs:=h2.mem (List.Mem.head _)
 obtain ⟨v',w',hr,hO,hU,hW⟩:=run_appendZ (P:=P) (k1:=k1) ty w ht htn he hz hz1 h3 hl hb
 refine SO_v hd (w':=w') (v:=v') ⟨fun a ha' _ _ _ _=>?_⟩ ((kk v').run w' (h2.set hU (fun b hb=>.inl (by show v.ownBlock = some b;simpa using hb)) hO ?_ (fun _ h=>h)))
 ·simp only [execOp,resolve]
  simp [ha'.ev hx,ha'.ev hy,invoke,builtin,hr]
 ·rintro b (hb' | hb' | hb')
  ·exact hW b hb'
  ·exact hb'.elim
  ·exact hb'.elim⟩
end
end Go.Art
namespace Go.Art
open Go Go.Proofs Go.RowKit
theorem dg_len_pos {n:Nat} (h:n ≠ 0):1 ≤ (dg n).length:=by
 cases h1:dg n with
 | nil=>exact absurd (dg_nil.1 h1) h
 | cons=>simp
theorem dg_mono {m n:Nat} (h:m ≤ n):(dg m).length ≤ (dg n).length:=(dg_len _ _).2 (Nat.lt_of_le_of_lt h ((dg_len n _).1 (Nat.le_refl _)))
theorem top_bounds {n:Nat} (h:n ≠ 0):(dg n).getD ((dg n).length - 1) 0 * 18446744073709551616 ^ ((dg n).length - 1) ≤ n∧n < ((dg n).getD ((dg n).length - 1) 0 + 1) * 18446744073709551616 ^ ((dg n).length - 1):=by
 have h0:=dg_len_pos h
 have h1:=nv_cut (dg n) ((dg n).length - 1)
 rw [nv_step,show (dg n).length - 1 + 1 = (dg n).length by omega,List.drop_eq_nil_of_le (Nat.le_refl _),nv_dg] at h1
 simp only [nv,Nat.mul_zero,Nat.add_zero] at h1
 have h2:=nv_low (Dg_dg n) ((dg n).length - 1)
 rw [Nat.mul_comm] at h1
 rw [Nat.add_mul,Nat.one_mul]
 omega
theorem div_case {N p V s a b:Nat} (hV:V = b * 2 ^ s) (hU:p + N * V = a * 2 ^ s) (hp:p < V):N = a / b∧p / 2 ^ s = a % b:=by
 have hg:0 < 2 ^ s:=Nat.pow_pos (by decide)
 have hdu:=div_up (a:=a) (y:=b) (p:=2 ^ s) hg
 rw [← hU,← hV] at hdu
 have h1:(p + N * V) / V = N:=by rw [Nat.add_mul_div_right _ _ (by omega),Nat.div_eq_of_lt hp,Nat.zero_add]
 have h2:(p + N * V) % V = p:=by rw [Nat.add_mul_mod_self_right,Nat.mod_eq_of_lt hp]
 rw [h1,h2] at hdu
 exact ⟨hdu.1,by rw [hdu.2];exact Nat.mul_div_cancel _ hg⟩
attribute [local irreducible] Fit pt own ro vw mpc lpt vels rels mow lrc dfr
abbrev DivR (na nb:Nat) (u:Value) (D:List Ch):Prop:=∃ q r,u = tup3 q r (I 0)∧q.oneCell' = true∧r.oneCell' = true∧D = [own T64 q (Us (dg (na / nb))),own T64 r (Us (dg (na % nb)))]
theorem DivLt_tr (va vb:Value) (a b:List Nat) (ha:Dg a) (hb:Dg b) (hla:a.length ≤ 549755813888) (hlb:b.length ≤ 549755813888) (hlt:nv a < nv b):Tr Tryz.prog 208 [va,vb] [vw va (Us a),vw vb (Us b)] [] (DivR (nv a) (nv b)):=by
 have hb0:(dg (nv b)).length ≠ 0:=by have:=dg_len_pos (n:=nv b) (by omega);omega
 have hc:cmpN (nv (dg (nv a))) (nv (dg (nv b))) < 0:=by rw [nv_dg,nv_dg,cmpN_lt];exact hlt
 have e1:nv a / nv b = 0:=Nat.div_eq_of_lt hlt
 have e2:nv a % nv b = nv a:=Nat.mod_eq_of_lt hlt
 unfold DivR
 rw [e1,e2,dg_zero]
 refine Tr.enter env _ Tryz.func208 (by kernel_rfl) rfl Tryz.ntmps208 rfl (by repeat (first | exact has00 | refine has01 ?_)) fun w0=>?_
 repeat' first|(refine gca ?_;first|(refine ca (Trim_tr va a ha (by omega)) ?_;rintro u1 _ ⟨hu1,rfl⟩)|(refine ca (Trim_tr vb b hb (by omega)) ?_;rintro u2 _ ⟨hu2,rfl⟩)|(refine ca (Cmp_tr u1 u2 _ _ (Dg_dg (nv a)) (Dg_dg (nv b))) ?_;rintro _ _ ⟨rfl,rfl⟩))|(refine wo ?_;first|(refine ao ?_;first|refine oa ?_)|refine oa ?_|refine lnm ?_)|(refine gc ?_;first|(refine ci (fun hB=>?_) (fun hB=>?_) <;> try (exfalso;omega)))|refine sq ?_|refine rg ?_|refine xc ?_|refine nl ?_|refine bk ?_|refine rt ?_
 refine TX.im (own_nil T64 _) ?_
 exact r3 ⟨_,_,rfl,rfl,hu1,rfl⟩
theorem DivOne_tr (va vb:Value) (a b:List Nat) (ha:Dg a) (hb:Dg b) (hla:a.length ≤ 549755813888) (hlb:b.length ≤ 549755813888) (hge:nv b ≤ nv a) (hb0:nv b ≠ 0) (hb1:nv b < 18446744073709551616):Tr Tryz.prog 208 [va,vb] [vw va (Us a),vw vb (Us b)] [] (DivR (nv a) (nv b)):=by
 have hc:¬ cmpN (nv (dg (nv a))) (nv (dg (nv b))) < 0:=by rw [nv_dg,nv_dg,cmpN_lt];omega
 have e1:dg (nv b) = [nv b]:=dg_one hb1 hb0
 have e2:(dg (nv b)).length = 1:=by rw [e1];rfl
 have e3:(dg (nv b)).getD 0 0 = nv b:=by rw [e1];rfl
 have hml:nv a % nv b < 18446744073709551616:=Nat.lt_trans (Nat.mod_lt _ (by omega)) hb1
 have hpl:=dg_len_le ha
 have hP:=fun u1=>Part_tr u1 (dg (nv a)) (nv b) (Dg_dg _) hb1 hb0 (by omega)
 unfold DivR
 simp only [nv_dg] at hP
 obtain ⟨rm,hrm⟩ : ∃ rm,rm = nv a % nv b:=⟨_,rfl⟩
 rw [← hrm] at hml ⊢
 simp only [← hrm] at hP
 refine Tr.enter env _ Tryz.func208 (by kernel_rfl) rfl Tryz.ntmps208 rfl (by repeat (first | exact has00 | refine has01 ?_)) fun w0=>?_
 repeat' first|(refine gca ?_;first|(refine ca (Trim_tr va a ha (by omega)) ?_;rintro u1 _ ⟨hu1,rfl⟩)|(refine ca (Trim_tr vb b hb (by omega)) ?_;rintro u2 _ ⟨hu2,rfl⟩)|(refine ca (Cmp_tr u1 u2 _ _ (Dg_dg (nv a)) (Dg_dg (nv b))) ?_;rintro _ _ ⟨rfl,rfl⟩)|(refine ca (hP u1) ?_;rintro _ _ ⟨q,rfl,hq,rfl⟩)|(refine ca (Of_tr rm hml) ?_;rintro r _ ⟨hr,rfl⟩))|refine lue e3 ?_|(refine wo ?_;first|(refine ao ?_;first|refine oa ?_)|refine oa ?_|refine lnm ?_|refine ixm ?_)|(refine gc ?_;first|(refine ci (fun hB=>?_) (fun hB=>?_) <;> try (exfalso;omega)))|refine sq ?_|refine rg ?_|refine xc ?_|refine nl ?_|refine bk ?_|refine rt ?_
 exact r3 ⟨_,_,rfl,hq,hr,rfl⟩
set_option maxHeartbeats 1000000 in
theorem DivMain_tr (va vb:Value) (a b:List Nat) (ha:Dg a) (hb:Dg b) (hla:a.length ≤ 549755813888) (hlb:b.length ≤ 549755813888) (hge:nv b ≤ nv a) (hb1:18446744073709551616 ≤ nv b):Tr Tryz.prog 208 [va,vb] [vw va (Us a),vw vb (Us b)] [] (DivR (nv a) (nv b)):=by
 have hc:¬ cmpN (nv (dg (nv a))) (nv (dg (nv b))) < 0:=by rw [nv_dg,nv_dg,cmpN_lt];omega
 have hb0:nv b ≠ 0:=by omega
 have hal:=dg_len_le ha
 have hbl:=dg_len_le hb
 have hba:=dg_mono hge
 obtain ⟨na,hna⟩ : ∃ na,na = nv a:=⟨_,rfl⟩
 obtain ⟨nb,hnb⟩ : ∃ nb,nb = nv b:=⟨_,rfl⟩
 have hTa:=fun h=>Trim_tr va a ha h
 have hTb:=fun h=>Trim_tr vb b hb h
 rw [← hna] at hge hal hba hTa hc ⊢
 rw [← hnb] at hge hb1 hb0 hbl hba hTb hc ⊢
 obtain ⟨x,hx⟩ : ∃ x,x = dg na:=⟨_,rfl⟩
 obtain ⟨y,hy⟩ : ∃ y,y = dg nb:=⟨_,rfl⟩
 have hxd:Dg x:=by rw [hx];exact Dg_dg _
 have hyd:Dg y:=by rw [hy];exact Dg_dg _
 have hy2:2 ≤ y.length:=by
  rcases Nat.lt_or_ge y.length 2 with h | h
  ·have:=(dg_len nb 1).1 (by rw [← hy];omega)
   omega
  ·exact h
 have hty:=Tm.top (Tm_dg nb) (by rw [← hy];omega)
 have htb:=top_bounds hb0
 have hnaL:=(dg_len na x.length).1 (by rw [hx];exact Nat.le_refl _)
 have hxl0:1 ≤ x.length:=by rw [hx];exact dg_len_pos (by omega)
 rw [← hx] at hal hba hTa hc
 rw [← hy] at hbl hba hTb hc hty htb
 have htd:y.getD (y.length - 1) 0 < 18446744073709551616:=hyd.getD _
 have hge2:((y.length:Int) - 1).toNat = y.length - 1:=by omega
 obtain ⟨top,htop⟩ : ∃ top,y.getD ((y.length:Int) - 1).toNat 0 = top:=⟨_,rfl⟩
 have htop2:=htop
 rw [hge2] at htop2
 rw [htop2] at hty htb htd
 obtain ⟨s,hs,hse,hV1,hV2⟩:=lz_ex top htd hty
 have hLZ:=LZ64_tr top htd
 rw [hse] at hLZ
 have hg:0 < 2 ^ s:=Nat.pow_pos (by decide)
 -- the divisor and the dividend,moved
 obtain ⟨V,hV⟩ : ∃ V,V = nb * 2 ^ s:=⟨_,rfl⟩
 obtain ⟨U,hU⟩ : ∃ U,U = na * 2 ^ s:=⟨_,rfl⟩
 have hUpV:=fun v1=>NUp_tr v1 nb s hs hb0 (by rw [← hy];omega)
 have hUpU:=fun v1=>NUp_tr v1 na s hs (by omega) (by rw [← hx];omega)
 rw [← hV] at hUpV
 rw [← hU] at hUpU
 simp only [← hy] at hUpV
 simp only [← hx] at hUpU
 have hVlow:9223372036854775808 * 18446744073709551616 ^ (y.length - 1) ≤ V:=by
  rw [hV]
  refine Nat.le_trans (Nat.mul_le_mul_right _ hV1) ?_
  rw [Nat.mul_right_comm]
  exact Nat.mul_le_mul_right _ htb.1
 have hVhigh:V < 18446744073709551616 ^ y.length:=by
  have h1:(top + 1) * 2 ^ s ≤ 18446744073709551616:=by
   have hsp:=pow_split (s:=s) (by omega)
   rw [← hsp] at hV2 ⊢
   have:=Nat.lt_of_mul_lt_mul_right hV2
   exact Nat.mul_le_mul_right _ this
  have h2:nb * 2 ^ s < (top + 1) * 18446744073709551616 ^ (y.length - 1) * 2 ^ s:=Nat.mul_lt_mul_of_pos_right htb.2 hg
  rw [hV]
  refine Nat.lt_of_lt_of_le h2 ?_
  rw [Nat.mul_right_comm]
  refine Nat.le_trans (Nat.mul_le_mul_right _ h1) ?_
  rw [Nat.mul_comm,← Nat.pow_succ]
  exact Nat.pow_le_pow_right (by decide) (by omega)
 have hs63:2 ^ s ≤ 9223372036854775808:=Nat.pow_le_pow_right (n:=2) (by decide) (show s ≤ 63 from hs)
 obtain ⟨v,hv⟩ : ∃ v,v = dg V:=⟨_,rfl⟩
 have hvn:nv v = V:=by rw [hv,nv_dg]
 have hvd:Dg v:=by rw [hv];exact Dg_dg _
 have hvl:v.length = y.length:=by
  refine Nat.le_antisymm ?_ ?_
  ·rw [hv];exact (dg_len _ _).2 hVhigh
  ·rcases Nat.lt_or_ge v.length y.length with h | h
   ·have h1:=(dg_len V (y.length - 1)).1 (by rw [← hv];omega)
    have h2:18446744073709551616 ^ (y.length - 1) ≤ 9223372036854775808 * 18446744073709551616 ^ (y.length - 1):=Nat.le_mul_of_pos_left _ (by decide)
    omega
   ·exact h
 have hvt:v.getD (v.length - 1) 0 ≠ 0:=by rw [hv];exact (Tm_dg V).top (by rw [← hv];omega)
 have hUhigh:U < 18446744073709551616 ^ x.length * 9223372036854775808:=by
  rw [hU];exact Nat.lt_of_lt_of_le (Nat.mul_lt_mul_of_pos_right hnaL hg) (Nat.mul_le_mul_left _ hs63)
 have hUl:(dg U).length ≤ x.length + 1:=(dg_len _ _).2 (by
  rw [Nat.pow_succ];exact Nat.lt_of_lt_of_le hUhigh (Nat.mul_le_mul_left _ (by decide)))
 obtain ⟨k,hk⟩ : ∃ k:Nat,(x.length:Int) + 1 - ((dg U).length:Int) = k:=⟨x.length + 1 - (dg U).length,by omega⟩
 obtain ⟨p,hp⟩ : ∃ p:Nat,(x.length:Int) - (y.length:Int) + 1 = p:=⟨x.length - y.length + 1,by omega⟩
 have hpl:p + y.length = x.length + 1:=by omega
 obtain ⟨us,hus⟩ : ∃ us,us = dg U ++ List.replicate k 0:=⟨_,rfl⟩
 have husn:nv us = U:=by rw [hus,nv_app,nv_rep,nv_dg,Nat.mul_zero,Nat.add_zero]
 have husd:Dg us:=by rw [hus];exact (Dg_dg _).app (Dg.rep _)
 have husl:us.length = x.length + 1:=by rw [hus,List.length_append,List.length_replicate];omega
 have husU:Us (dg U) ++ List.replicate k (Un 0) = Us us:=by rw [Us_rep,← Us_app,hus]
 have hstart:nv (us.drop p) < V:=by
  have h1:=nv_cut us p
  rw [husn] at h1
  have h2:18446744073709551616 ^ x.length * 9223372036854775808 = 18446744073709551616 ^ p * (9223372036854775808 * 18446744073709551616 ^ (y.length - 1)):=by
   rw [show x.length = p + (y.length - 1) by omega,Nat.pow_add,Nat.mul_assoc,Nat.mul_comm 9223372036854775808]
  rw [h2] at hUhigh
  have h3:18446744073709551616 ^ p * nv (us.drop p) < 18446744073709551616 ^ p * (9223372036854775808 * 18446744073709551616 ^ (y.length - 1)):=by omega
  exact Nat.lt_of_lt_of_le (Nat.lt_of_mul_lt_mul_left h3) hVlow
 obtain ⟨qs,hqs⟩ : ∃ qs,qs = List.replicate p 0:=⟨_,rfl⟩
 have hqsl:qs.length = p:=by rw [hqs,List.length_replicate]
 have hqsd:Dg qs:=by rw [hqs];exact Dg.rep _
 rw [← hv] at hUpV
 have hcase:=fun N q=>div_case (N:=N) (p:=q) (V:=V) (s:=s) (a:=na) (b:=nb) hV
 rw [← hU] at hcase
 have hxle:x.length ≤ 549755813888:=by omega
 have pk:Unit→(nv us = U∧nv v = V∧v.getD (v.length - 1) 0 ≠ 0∧V < 18446744073709551616 ^ y.length∧nv (us.drop p) < V):=fun _=>⟨husn,hvn,hvt,hVhigh,hstart⟩
 clear hUhigh hVlow htb hV1 hV2 hnaL hV hU hx hy hs63 hv hna hnb htop2 hty husn hvn hvt hVhigh hstart hg hse hge hb1 hb0
 refine Tr.enter env _ Tryz.func208 (by kernel_rfl) rfl Tryz.ntmps208 rfl (by repeat (first | exact has00 | refine has01 ?_)) fun w0=>?_
 repeat' first|(refine gca ?_;first|(refine ca (hTa (by omega)) ?_;rintro u1 _ ⟨hu1,rfl⟩)|(refine ca (hTb (by omega)) ?_;rintro u2 _ ⟨hu2,rfl⟩)|(refine ca (Cmp_tr u1 u2 x y hxd hyd) ?_;rintro _ _ ⟨rfl,rfl⟩)|(refine ca hLZ ?_;rintro _ _ ⟨rfl,rfl⟩)|(refine ca (hUpV u2) ?_;rintro _ _ ⟨vv,rfl,hvv,rfl⟩)|(refine ca (hUpU u1) ?_;rintro _ _ ⟨uu,rfl,huu,rfl⟩))|refine lue htop ?_|(refine aw ?_;rw [hk])|(refine aw ?_;rw [hp])|(refine apzo (k:=k) (xs:=Us (dg U)) (z:=Un 0) (hl:=by rw [Us_len];omega) fun o=>?_;rw [husU])|(refine mku fun qv=>?_;rw [Int.toNat_natCast,← hqs])|(refine wo ?_;first|(refine ao ?_;first|refine aw ?_|refine oa ?_)|refine oa ?_|refine lnm ?_|refine ixm ?_)|(refine gc ?_;first|(refine ci (fun hB=>?_) (fun hB=>?_) <;> try (exfalso;omega)))|refine sq ?_|refine rg ?_|refine xc ?_|refine nl ?_|refine sk ?_|refine bk ?_|refine xb ?_
 obtain ⟨husn,hvn,hvt,hVhigh,hstart⟩:=pk ()
 refine TC.loop (ι:=Int × List Nat × List Nat) (fun i=>[(16,I i.1)]) (fun i=>[own T64 o (Us i.2.1),own T64 qv (Us i.2.2)])
  (fun i=>i.2.1.length = x.length + 1∧i.2.2.length = p∧Dg i.2.1∧Dg i.2.2∧-1 ≤ i.1∧i.1 < p∧nv i.2.1 + 18446744073709551616 ^ (i.1 + 1).toNat * nv (i.2.2.drop (i.1 + 1).toNat) * V = U∧nv (i.2.1.drop (i.1 + 1).toNat) < V)
  (fun i=>(i.1 + 1).toNat) ((qs.length:Int) - 1,us,qs) [10,11,13,15] ⟨husl,hqsl,husd,hqsd,by dsimp only;omega,by dsimp only;omega,?_,?_⟩ ?_
 ·dsimp only
  rw [show ((qs.length:Int) - 1 + 1).toNat = qs.length by omega,List.drop_eq_nil_of_le (Nat.le_refl _),husn];simp [nv]
 ·dsimp only
  rw [show ((qs.length:Int) - 1 + 1).toNat = p by omega];exact hstart
 clear hstart hUpV hUpU hLZ hTa hTb hc husU hus husn husd husl hqs hqsl hqsd htop hk hp hge2 hUl hal hbl hxl0 pk hla hlb
 rintro ⟨ji,ys,ws⟩ ⟨h1,h2,h3,h4,h5,h6,hI,hR⟩
 dsimp only at h1 h2 h3 h4 h5 h6 hI hR ⊢
 by_cases hj:0 ≤ ji
 ·obtain ⟨j,rfl⟩ : ∃ j:Nat,ji = j:=⟨ji.toNat,by omega⟩
  rw [show ((j:Int) + 1).toNat = j + 1 by omega] at hI hR
  have hjl:j + v.length + 1 ≤ ys.length:=by omega
  have hVb:V < 18446744073709551616 ^ v.length:=by rw [hvl];exact hVhigh
  have hz:nv (ys.drop (j + v.length + 1)) = 0:=by
   have h:=nv_cut (ys.drop (j + 1)) v.length
   rw [List.drop_drop,show j + 1 + v.length = j + v.length + 1 by omega] at h
   rcases Nat.eq_zero_or_pos (nv (ys.drop (j + v.length + 1))) with h0 | h0
   ·exact h0
   ·have:=Nat.mul_le_mul_left (18446744073709551616 ^ v.length) h0
    omega
  have hW:=win_facts (ys:=ys) (j:=j) (n:=v.length) hjl
  have hWd:nv (ys.drop j) = nv ((ys.take (j + v.length + 1)).drop j):=by
   have h:=nv_cut (ys.drop j) (v.length + 1)
   rw [List.drop_drop,List.take_drop,show j + (v.length + 1) = j + v.length + 1 by omega,hz,Nat.mul_zero,Nat.add_zero] at h
   exact h
  have hys:=nv_step ys j
  have hyj:=h3.getD j
  have hwB:nv ((ys.take (j + v.length + 1)).drop j) < nv v * 18446744073709551616:=by
   rw [← hWd,hys,hvn]
   have:=Nat.mul_le_mul_left 18446744073709551616 hR
   rw [Nat.mul_succ,Nat.mul_comm _ V] at this
   omega
  have hst:=step_tr o vv ys v j h3 hvd (by omega) hvt hjl (by omega) hwB
  rw [hvn] at hst
  obtain ⟨w,hw⟩ : ∃ w,w = nv ((ys.take (j + v.length + 1)).drop j):=⟨_,rfl⟩
  rw [← hw] at hst hW hWd
  have hV0:0 < V:=by omega
  have hrl:(dg (w % V)).length ≤ v.length + 1:=Nat.le_trans ((dg_len _ _).2 (Nat.lt_trans (Nat.mod_lt _ hV0) hVb)) (by omega)
  obtain ⟨s1,s2,s3,s4⟩:=stepL_facts hrl hjl h3 (Dg_dg (w % V))
  rw [hz,Nat.mul_zero,Nat.add_zero,nv_dg] at s3 s4
  rw [hz,Nat.mul_zero,Nat.add_zero] at hW
  have hq:=nv_set_drop ws j (w / V) (by omega)
  have hqb:w / V < 18446744073709551616:=by
   rw [Nat.div_lt_iff_lt_mul hV0,Nat.mul_comm,← hvn,hw];exact hwB
  have hmV:w % V < V:=Nat.mod_lt _ hV0
  have hfin:nv (stepL ys j v.length (dg (w % V))) + 18446744073709551616 ^ j * nv ((ws.set j (w / V)).drop j) * V = U:=by
   have h:=Nat.div_add_mod w V
   rw [s3,hq,← hI,hW,Nat.pow_succ]
   rw [Nat.mul_add,Nat.add_mul,show 18446744073709551616 ^ j * (18446744073709551616 * nv (ws.drop (j + 1))) * V = 18446744073709551616 ^ j * 18446744073709551616 * nv (ws.drop (j + 1)) * V by ac_rfl]
   have h':=congrArg (18446744073709551616 ^ j * ·) h
   simp only [Nat.mul_add] at h'
   rw [show 18446744073709551616 ^ j * (w / V) * V = 18446744073709551616 ^ j * (V * (w / V)) by ac_rfl]
   omega
  obtain ⟨qd,hqd⟩ : ∃ qd,qd = w / V:=⟨_,rfl⟩
  obtain ⟨zs,hzs⟩ : ∃ zs,zs = stepL ys j v.length (dg (w % V)):=⟨_,rfl⟩
  rw [← hqd] at hst hfin hqb
  rw [← hzs] at hst hfin s1 s2 s4
  have pk2:Unit→(nv zs + 18446744073709551616 ^ j * nv ((ws.set j qd).drop j) * V = U∧nv (zs.drop j) < V):=fun _=>⟨hfin,by rw [s4];exact hmV⟩
  clear hqd hzs hq s3 hrl hw hW hWd hys hwB hz hI hR hVb hvt hfin s4 hmV hVhigh hvn hV0 hyj
  repeat' first|(refine gca ?_;first|(refine ca hst ?_;rintro _ _ ⟨rfl,rfl⟩))|refine sou ?_|(refine aw ?_;rw [show (j:Int) + (v.length:Int) + 1 = ((j + v.length + 1:Nat):Int) by omega])|(refine wo ?_;first|(refine ao ?_;first|refine aw ?_|refine oa ?_)|refine oa ?_|refine lnm ?_|refine ixmn ?_|refine scm ?_)|(refine gc ?_;first|refine ct ?_)|refine sq ?_|refine rg ?_|refine xc ?_|refine nl ?_|refine sk ?_|refine bk ?_|refine xb ?_
  exact lp ((j:Int) - 1,zs,ws.set j qd) ⟨by dsimp only;omega,by dsimp only;rw [List.length_set];exact h2,s2,h4.set hqb,by dsimp only;omega,by dsimp only;omega,by dsimp only;rw [show ((j:Int) - 1 + 1).toNat = j by omega];exact (pk2 ()).1,by dsimp only;rw [show ((j:Int) - 1 + 1).toNat = j by omega];exact (pk2 ()).2⟩
 ·obtain rfl:ji = -1:=by omega
  rw [show ((-1:Int) + 1).toNat = 0 from rfl,List.drop_zero,Nat.pow_zero,Nat.one_mul] at hI
  rw [show ((-1:Int) + 1).toNat = 0 from rfl,List.drop_zero] at hR
  obtain ⟨c1,c2⟩:=hcase _ _ hI hR
  unfold DivR
  rw [← c1,← c2]
  have hyl:=dg_len_le h3
  have hDn:=fun v1=>NDown_tr v1 (dg (nv ys)) s hs (Dg_dg _) (by omega)
  simp only [nv_dg] at hDn
  repeat' first|(refine gca ?_;first|(refine ca (Trim_tr o ys h3 (by omega)) ?_;rintro o2 _ ⟨ho2,rfl⟩)|(refine ca (Trim_tr qv ws h4 (by omega)) ?_;rintro q2 _ ⟨hq2,rfl⟩)|(refine ca (hDn o2) ?_;rintro _ _ ⟨lf,rfl,hlf,rfl⟩))|(refine wo ?_;first|(refine ao ?_;first|refine oa ?_)|refine oa ?_)|(refine gc ?_;first|refine cf ?_)|refine sq ?_|refine rg ?_|refine xc ?_|refine nl ?_|refine xe ?_|refine rt ?_
  exact r3 ⟨q2,lf,rfl,hq2,hlf,rfl⟩
end Go.Art
namespace Go.Art
open Go Go.Proofs Go.RowKit
attribute [local irreducible] Fit pt own ro vw mpc lpt vels rels mow lrc dfr
theorem NDiv_tr (va vb:Value) (a b:List Nat) (ha:Dg a) (hb:Dg b) (hla:a.length ≤ 549755813888) (hlb:b.length ≤ 549755813888) (hb0:nv b ≠ 0):Tr Tryz.prog 208 [va,vb] [vw va (Us a),vw vb (Us b)] [] (DivR (nv a) (nv b)):=by
 rcases Nat.lt_or_ge (nv a) (nv b) with h | h
 ·exact DivLt_tr va vb a b ha hb hla hlb h
 ·rcases Nat.lt_or_ge (nv b) 18446744073709551616 with h1 | h1
  ·exact DivOne_tr va vb a b ha hb hla hlb h hb0 h1
  ·exact DivMain_tr va vb a b ha hb hla hlb h h1
theorem NGcd_tr (va vb:Value) (a b:List Nat) (ha:Dg a) (hb:Dg b) (hla:a.length ≤ 549755813888) (hlb:b.length ≤ 549755813888):Tr Tryz.prog 155 [va,vb] [vw va (Us a),vw vb (Us b)] [] fun u D=>u.oneCell' = true∧D = [own T64 u (Us (dg (Nat.gcd (nv a) (nv b))))]:=by
 have h1:=dg_len_le ha
 have h2:=dg_len_le hb
 obtain ⟨na,hna⟩ : ∃ na,na = nv a:=⟨_,rfl⟩
 obtain ⟨nb,hnb⟩ : ∃ nb,nb = nv b:=⟨_,rfl⟩
 have hTa:=Trim_tr va a ha (by omega)
 have hTb:=Trim_tr vb b hb (by omega)
 rw [← hna] at h1 hTa ⊢
 rw [← hnb] at h2 hTb ⊢
 clear hna hnb
 refine Tr.enter env _ Tryz.func155 (by kernel_rfl) rfl Tryz.ntmps155 rfl (by repeat (first | exact has00 | refine has01 ?_)) fun w0=>?_
 repeat' first|(refine gca ?_;first|(refine ca hTa ?_;rintro u1 _ ⟨hu1,rfl⟩)|(refine ca hTb ?_;rintro u2 _ ⟨hu2,rfl⟩))|(refine wo ?_;first|refine oa ?_)|refine sq ?_|refine rg ?_|refine xc ?_|refine nl ?_|refine bk ?_
 refine TC.loop (ι:=Nat × Nat × Value × Value) (fun k=>[(0,k.2.2.1),(1,k.2.2.2)]) (fun k=>[own T64 k.2.2.1 (Us (dg k.1)),own T64 k.2.2.2 (Us (dg k.2.1))]) (fun k=>(dg k.1).length ≤ 549755813888∧(dg k.2.1).length ≤ 549755813888∧Nat.gcd k.1 k.2.1 = Nat.gcd na nb∧k.2.2.1.oneCell' = true∧k.2.2.2.oneCell' = true) (fun k=>k.2.1) (na,nb,u1,u2) [] ⟨by dsimp only;omega,by dsimp only;omega,rfl,hu1,hu2⟩ ?_
 rintro ⟨p,q,v1,v2⟩ ⟨g1,g2,g3,g4,g5⟩
 dsimp only at g1 g2 g3 g4 g5 ⊢
 by_cases hq:q = 0
 ·subst hq
  have hl:(dg 0).length = 0:=by rw [dg_zero];rfl
  rw [Nat.gcd_zero_right] at g3
  rw [← g3]
  repeat' first|(refine wo ?_;first|(refine ao ?_;first|refine oa ?_)|refine oa ?_|refine lnm ?_)|(refine gc ?_;first|(refine ci (fun hB=>?_) (fun hB=>?_) <;> try (exfalso;omega)))|refine sq ?_|refine rg ?_|refine xc ?_|refine nl ?_|refine xe ?_|refine rt ?_
  exact r1 ⟨g4,rfl⟩
 ·have hl:=dg_len_pos hq
  have hD:=NDiv_tr v1 v2 (dg p) (dg q) (Dg_dg p) (Dg_dg q) g1 g2 (by rw [nv_dg];exact hq)
  rw [nv_dg,nv_dg] at hD
  have hm:p % q < q:=Nat.mod_lt _ (by omega)
  have hml:=Nat.le_trans (dg_mono (Nat.le_of_lt hm)) g2
  have hg:Nat.gcd q (p % q) = Nat.gcd na nb:=by rw [← g3,Nat.gcd_comm p q,Nat.gcd_rec q p,Nat.gcd_comm]
  obtain ⟨r,hr⟩ : ∃ r,r = p % q:=⟨_,rfl⟩
  unfold DivR at hD
  rw [← hr] at hm hml hg hD
  repeat' first|(refine gca ?_;first|(refine ca hD ?_;rintro _ _ ⟨qv,rv,rfl,hqv,hrv,rfl⟩))|(refine wo ?_;first|(refine ao ?_;first|refine oa ?_)|refine oa ?_|refine lnm ?_)|(refine gc ?_;first|(refine ci (fun hB=>?_) (fun hB=>?_) <;> try (exfalso;omega)))|refine sq ?_|refine rg ?_|refine xc ?_|refine nl ?_|refine sk ?_|refine bk ?_|refine xb ?_
  exact lp (q,r,v2,rv) ⟨g2,hml,hg,g5,hrv⟩
end Go.Art
