/- Part 1 of what the proofs of these rest on: Pages, None, Open. -/
import Derived.WalkKit
import Derived.Deep.LoopGhost
import Derived.Orders
import Derived.ChangeSame
import Derived.RowKit3
import Derived.OpenShut
import Derived.Carry
set_option linter.unusedVariables false
set_option linter.unusedSimpArgs false
set_option linter.unusedSectionVars false
section
namespace Go.Sx
open Go
abbrev ee:=List (Nat×Value)
def look:ee->Nat->Option Value
 |[],_=>none
 |p::r,t=>cond (Nat.beq p.1 t) (some p.2) (look r t)
structure Fits(n:Nat)(R:ee)(a:Act):Prop where
 size:a.tmps.size=n
 defers:a.defers=[]
 jX:∀t v,look R t=some v->a.tmps.getD t undef=v
theorem eN(u:Nat)(v:Value)(r:ee)(t:Nat):look ((u,v)::r) t=if u=t then some v else look r t:=by
 by_cases h:u=t
 . subst h;simp[look]
 . have h':Nat.beq u t=false:=by
    cases hb:Nat.beq u t
    . rfl
    . exact(h (Nat.eq_of_beq_eq_true hb)).elim
   simp[look,h,h']
theorem Fits.put{n:Nat}{R:ee}{a:Act}(h:Fits n R a){d:Nat}(hd:Nat.ble (d+1) n=true)(v:Value):Fits n ((d,v)::R) (a.put (some d) v):=by
 have hd':d<n:=Nat.le_of_ble_eq_true hd
 refine⟨by simp[Act.put,h.size],by simp[Act.put,h.defers],?_⟩
 intro t u hl
 rw[eN]at hl
 simp only[Act.put,Array.getD_eq_getD_getElem?]
 by_cases e:d=t
 . subst e
   rw[if_pos rfl]at hl
   obtain rfl:=Option.some.inj hl
   rw[Array.getElem?_setIfInBounds_self_of_lt (by rw[h.size];exact hd')]
   rfl
 . rw[if_neg e]at hl
   have:=h.jX t u hl
   rw[Array.getD_eq_getD_getElem?]at this
   rw[Array.getElem?_setIfInBounds_ne e]
   exact this
def ev(R:ee):Operand->Option Value
 | .tmp t=>look R t
 | .const v=>some v
 | .global g=>some (.pointer (some ⟨g,0,none⟩))
 | .func f=>some (.func (.func f) #[] #[])
theorem Fits.ev{n:Nat}{R:ee}{a:Act}(h:Fits n R a){x:Operand}{v:Value}(hx:ev R x=some v):a.eval x=v:=by
 cases x with
 |tmp t=>exact h.jX t v hx
 |const u=>exact Option.some.inj hx
 |global g=>exact Option.some.inj hx
 |func f=>exact Option.some.inj hx
def ng(R:ee):List Operand->Option (List Value)
 |[]=>some []
 |x::l=>match ev R x,ng R l with
  |some v,some vs=>some (v::vs)
  |_,_=>none
theorem Fits.ng{n:Nat}{R:ee}{a:Act}(h:Fits n R a):∀{l:List Operand} {vs:List Value},ng R l=some vs->l.map a.eval=vs:=by
 intro l
 induction l with
 |nil=>intro vs hl;simp[Sx.ng]at hl;simp[hl]
 |cons x l ih=>
  intro vs hl
  simp only[Sx.ng]at hl
  split at hl
  . rename_i v vs' hv hvs
    obtain rfl:=Option.some.inj hl
    simp[h.ev hv,ih hvs]
  . cases hl
def aa(R' R:ee):Prop:=∀t v,look R' t=some v->look R t=some v
theorem aa.nil(R:ee):aa [] R:=fun t v h=>by simp[look]at h
theorem aa.cons{R' R:ee}{t:Nat}{v:Value}(h:look R t=some v)(hr:aa R' R):aa ((t,v)::R') R:=by
 intro u x hl
 rw[eN]at hl
 by_cases e:t=u
 . subst e;rw[if_pos rfl]at hl;rw[<-hl];exact h
 . rw[if_neg e]at hl;exact hr u x hl
theorem aa.aM{R' R:ee}{t:Nat}{u v:Value}(h:look R t=some u)(e:u=v)(hr:aa R' R):aa ((t,v)::R') R:=aa.cons (e▸h) hr
theorem aa.refl(R:ee):aa R R:=fun _ _ h=>h
theorem Fits.sub{n:Nat}{R R':ee}{a:Act}(h:Fits n R a)(hs:aa R' R):Fits n R' a:=⟨h.size,h.defers,fun t v hl=>h.jX t v (hs t v hl)⟩
abbrev Chunk:=List (Nat×Obj)
class au where
 os:Os
 out:Array (Nat×ByteArray)
variable[au]
structure Mem(hs:List Chunk)(w:World):Prop where
 nodup:(hs.flatten.map Prod.fst).Nodup
 has:∀b o,(b,o)∈hs.flatten->w.heap[b]? =some o
 outer:w.os=au.os/\w.output=au.out
inductive aR:List Chunk->Chunk->List Chunk->Prop
 |head {A:Chunk} {r:List Chunk}:aR (A::r) A r
 |tail {A B:Chunk} {l r:List Chunk}:aR l A r->aR (B::l) A (B::r)
omit [au] in
theorem aR.perm{hs:List Chunk}{A:Chunk}{r:List Chunk}(h:aR hs A r):hs.flatten.Perm (A++r.flatten):=by
 induction h with
 |head=>simp
 | @tail A B l r _ ih=>
   simp only[List.flatten_cons]
   refine(List.Perm.append_left B ih).trans ?_
   rw[<-List.append_assoc,<-List.append_assoc]
   exact List.Perm.append_right _ List.perm_append_comm
theorem Mem.perm{hs hs':List Chunk}{w:World}(h:Mem hs w)(hp:hs.flatten.Perm hs'.flatten):Mem hs' w:=
 ⟨(hp.map _).nodup_iff.1 h.nodup,fun b o hb=>h.has b o (hp.symm.subset hb),h.outer⟩
theorem Mem.pull{hs:List Chunk}{A:Chunk}{r:List Chunk}{w:World}(h:Mem hs w)(hp:aR hs A r):Mem (A::r) w:=
 h.perm (by simpa using hp.perm)
theorem Mem.drop{A:Chunk}{r:List Chunk}{w:World}(h:Mem (A::r) w):Mem r w:=by
 refine⟨?_,fun b o hb=>h.has b o (by simp[hb]),h.outer⟩
 have:=h.nodup
 simp only[List.flatten_cons,List.map_append]at this
 exact(List.nodup_append.1 this).2.1
inductive bp:List Chunk->List Chunk->Prop
 |refl (hs:List Chunk):bp hs hs
 |pull {hs:List Chunk} {A:Chunk} {r hs':List Chunk}:aR hs A r->bp r hs'->bp hs (A::hs')
 |drop {A:Chunk} {r hs':List Chunk}:bp r hs'->bp (A::r) hs'
 |empty {hs hs':List Chunk}:bp hs hs'->bp hs ([]::hs')
 |join {hs hs':List Chunk} {A B:Chunk}:bp hs (A::B::hs')->bp hs ((A++B)::hs')
 |split {A B:Chunk} {r hs':List Chunk}:bp (A::B::r) hs'->bp ((A++B)::r) hs'
theorem bp.none{hs:List Chunk}:Mem hs=Mem ([]::hs):=by
 funext w
 refine propext ⟨fun h=>⟨by simpa using h.nodup,by simpa using h.has,h.outer⟩,fun h=>⟨by simpa using h.nodup,by simpa using h.has,h.outer⟩⟩
omit [au] in
theorem bp.perm{hs hs':List Chunk}(h:bp hs hs'):∃rest:Chunk,hs.flatten.Perm (hs'.flatten++rest):=by
 induction h with
 |refl=>exact⟨[],by simp⟩
 | @pull hs A r hs' hp _ ih=>
   obtain⟨rest,ih⟩:=ih
   exact⟨rest,hp.perm.trans (by simpa using List.Perm.append_left A ih)⟩
 | @drop A r hs' _ ih=>
   obtain⟨rest,ih⟩:=ih
   refine⟨A++rest,?_⟩
   simp only[List.flatten_cons]
   refine(List.Perm.append_left A ih).trans ?_
   rw[<-List.append_assoc,<-List.append_assoc]
   exact List.Perm.append_right _ List.perm_append_comm
 |empty _ ih=>simpa using ih
 |join _ ih=>obtain⟨rest,ih⟩:=ih;exact⟨rest,by simpa[List.append_assoc]using ih⟩
 |split _ ih=>obtain⟨rest,ih⟩:=ih;exact⟨rest,by simpa[List.append_assoc]using ih⟩
theorem Mem.kf{hs hs':List Chunk}{w:World}(h:Mem hs w)(hsel:bp hs hs'):Mem hs' w:=by
 obtain⟨rest,hp⟩:=hsel.perm
 refine⟨?_,fun b o hb=>h.has b o (hp.symm.subset (by simp[hb])),h.outer⟩
 have:=(hp.map Prod.fst).nodup_iff.1 h.nodup
 rw[List.map_append,List.nodup_append]at this
 exact this.1
inductive Has:List Chunk->Nat->Obj->Prop
 |here {b:Nat} {o:Obj} {A:Chunk} {r:List Chunk}:(b,o)∈A->Has (A::r) b o
 |there {b:Nat} {o:Obj} {A:Chunk} {r:List Chunk}:Has r b o->Has (A::r) b o
omit [au] in
theorem Has.mem{hs:List Chunk}{b:Nat}{o:Obj}(h:Has hs b o):(b,o)∈hs.flatten:=by
 induction h with
 |here hm=>simp[hm]
 |there _ ih=>simp[ih]
omit [au] in
theorem Has.j4{hs:List Chunk}{b:Nat}{o:Obj}(h:(b,o)∈hs.flatten):Has hs b o:=by
 induction hs with
 |nil=>simp at h
 |cons A r ih=>
  simp only[List.flatten_cons,List.mem_append]at h
  cases h with
  |inl h=>exact .here h
  |inr h=>exact .there (ih h)
omit [au] in
theorem Has.one{b:Nat}{o:Obj}{r:List Chunk}:Has ([(b,o)]::r) b o:= .here (by simp)
theorem Mem.heap{hs:List Chunk}{w:World}(h:Mem hs w){b:Nat}{o:Obj}(hb:Has hs b o):w.heap[b]? =some o:=h.has b o hb.mem
omit [au] in
theorem Has.pull{hs:List Chunk}{A:Chunk}{r:List Chunk}(hp:aR hs A r){b:Nat}{o:Obj}(h:Has hs b o):Has (A::r) b o:=
 Has.j4 (by have:=hp.perm.subset h.mem;simpa using this)
theorem Mem.alloc{hs:List Chunk}{w:World}(h:Mem hs w)(o:Obj):Mem ([(w.heap.size,o)]::hs) (w.alloc o):=by
 have hlt:∀b o',(b,o')∈hs.flatten->b<w.heap.size:=by
  intro b o' hb
  have:=h.has b o' hb
  exact(Array.getElem?_eq_some_iff.1 this).1
 refine⟨?_,?_,h.outer⟩
 . simp only[List.flatten_cons,List.map_cons,List.singleton_append,List.nodup_cons]
   refine⟨?_,h.nodup⟩
   intro hm
   obtain⟨⟨b,o'⟩,hb,e⟩:=List.mem_map.1 hm
   have:=hlt b o' hb
   simp only at e
   omega
 . intro b o' hb
   simp only[List.flatten_cons,List.singleton_append,List.mem_cons,Prod.mk.injEq]at hb
   rcases hb with⟨rfl,rfl⟩|hb
   . show(w.heap.push _)[w.heap.size]? =_
     simp
   . have h1:=hlt b o' hb
     have h2:=h.has b o' hb
     show(w.heap.push _)[b]? =_
     rw[Array.getElem?_push_lt h1]
     rw[Array.getElem?_eq_getElem h1]at h2
     exact h2
theorem Mem.ue{hs:List Chunk}{w:World}(h:Mem hs w):Mem hs {w with drawn:=w.drawn+1}:=⟨h.nodup,h.has,h.outer⟩
theorem Mem.write{b:Nat}{o o':Obj}{hs:List Chunk}{w w':World}(h:Mem ([(b,o)]::hs) w)
 (hb:w'.heap[b]? =some o')(hk:∀c,c≠b->w'.heap[c]? =w.heap[c]?)(hs':w'.os=w.os/\w'.output=w.output):Mem ([(b,o')]::hs) w':=by
 have hn:=h.nodup
 simp only[List.flatten_cons,List.singleton_append,List.map_cons,List.nodup_cons]at hn
 refine⟨?_,?_,hs'.1.trans h.outer.1,hs'.2.trans h.outer.2⟩
 . simp only[List.flatten_cons,List.singleton_append,List.map_cons,List.nodup_cons]
   exact hn
 . intro c oc hc
   simp only[List.flatten_cons,List.singleton_append,List.mem_cons,Prod.mk.injEq]at hc
   rcases hc with⟨rfl,rfl⟩|hc
   . exact hb
   . have hne:c≠b:=by
      intro e
      subst e
      exact hn.1 (List.mem_map.2 ⟨(c,oc),hc,rfl⟩)
     rw[hk c hne]
     exact h.has c oc (by simp[hc])
end Go.Sx
end
section
namespace Go.Sx
open Go
variable[au]
structure Cx where
 P:Program
 fn:Func
 n:Nat
 E:Ending->World->Prop
inductive dx
 |fin
 |seq(c:Code)(k:dx)
 |blk(id:Nat)(k:dx)
 |loop(I:Act->World->Prop)(k:dx)
def dx.Q(X:Cx):dx->Exit->Act->World->Prop
 | .fin=>bodyPost X.P X.fn X.E
 | .seq c k=>Exit.then (c.wp X.P (k.Q X)) (k.Q X)
 | .blk id k=>Exit.inBlock id (k.Q X)
 | .loop I k=>Exit.then I (k.Q X)
def TT(X:Cx)(c:Code)(k:dx)(R:ee)(hs:List Chunk):Prop:=∀a w,Fits X.n R a->Mem hs w->c.wp X.P (k.Q X) a w
def KT(X:Cx)(k:dx)(R:ee)(hs:List Chunk):Prop:=∀a w,Fits X.n R a->Mem hs w->k.Q X .normal a w
def XT(X:Cx)(id:Nat)(k:dx)(R:ee)(hs:List Chunk):Prop:=∀a w,Fits X.n R a->Mem hs w->k.Q X (.exit id) a w
def RT(X:Cx)(R:ee)(hs:List Chunk):Prop:=∀a w,Fits X.n R a->Mem hs w->bodyPost X.P X.fn X.E .ret a w
def OT(X:Cx)(ops:Array Oper)(l:List Oper)(k:dx)(R:ee)(hs:List Chunk):Prop:=
 ∀a w,Fits X.n R a->Mem hs w->wpList X.P ops (k.Q X) l a w
section
variable{X:Cx}{k:dx}{R:ee}{hs:List Chunk}
omit [au] in
theorem dx.Le(k:dx):k.Q X .ret=bodyPost X.P X.fn X.E .ret:=by
 induction k with
 |fin=>rfl
 |seq c k ih=>exact ih
 |blk id k ih=>exact ih
 |loop I k ih=>exact ih
omit [au] in
theorem dx.oF(k:dx)(ch:List PanicEntry):k.Q X (.panic ch)=bodyPost X.P X.fn X.E (.panic ch):=by
 induction k with
 |fin=>rfl
 |seq c k ih=>exact ih
 |blk id k ih=>exact ih
 |loop I k ih=>exact ih
theorem TT.seq{x y:Code}(h:TT X x (.seq y k) R hs):TT X (.seq x y) k R hs:=fun a w ha hm=>wp_seq (h a w ha hm)
theorem TT.skip(h:KT X k R hs):TT X .skip k R hs:=fun a w ha hm=>wp_skip (h a w ha hm)
theorem TT.block{id:Nat}{c:Code}(h:TT X c (.blk id k) R hs):TT X (.block id c) k R hs:=fun a w ha hm=>wp_block (h a w ha hm)
theorem TT.exit{id:Nat}(h:XT X id k R hs):TT X (.exit id) k R hs:=fun a w ha hm=>wp_exit (h a w ha hm)
theorem TT.ret(h:RT X R hs):TT X .ret k R hs:=fun a w ha hm=>wp_ret (by rw[dx.Le];exact h a w ha hm)
theorem TT.cond_true{c:Operand}{x y:Code}(hc:ev R c=some (.bool true))(h:TT X x k R hs):TT X (.cond c x y) k R hs:=
 fun a w ha hm=>wp_cond_true (ha.ev hc) (h a w ha hm)
theorem TT.cond_false{c:Operand}{x y:Code}(hc:ev R c=some (.bool false))(h:TT X y k R hs):TT X (.cond c x y) k R hs:=
 fun a w ha hm=>wp_cond_false (ha.ev hc) (h a w ha hm)
theorem TT.cond{c:Operand}{x y:Code}{t:Bool}(hc:ev R c=some (.bool t))(ht:t=true->TT X x k R hs)(hf:t=false->TT X y k R hs):
 TT X (.cond c x y) k R hs:=
 fun a w ha hm=>wp_cond_split (ha.ev hc) (fun e=>ht e a w ha hm) (fun e=>hf e a w ha hm)
theorem KT.seq{c:Code}(h:TT X c k R hs):KT X (.seq c k) R hs:=fun a w ha hm=>h a w ha hm
theorem KT.blk{id:Nat}(h:KT X k R hs):KT X (.blk id k) R hs:=fun a w ha hm=>h a w ha hm
theorem XT.seq{id:Nat}{c:Code}(h:XT X id k R hs):XT X id (.seq c k) R hs:=fun a w ha hm=>h a w ha hm
theorem XT.loop{id:Nat}{I:Act->World->Prop}(h:XT X id k R hs):XT X id (.loop I k) R hs:=fun a w ha hm=>h a w ha hm
theorem XT.here{id:Nat}(h:KT X k R hs):XT X id (.blk id k) R hs:=fun a w ha hm=>by
 show Exit.inBlock id (k.Q X) (.exit id) a w
 simp only[Exit.inBlock,if_true]
 exact h a w ha hm
theorem XT.blk{id id':Nat}(hne:Nat.beq id id'=false)(h:XT X id k R hs):XT X id (.blk id' k) R hs:=fun a w ha hm=>by
 show Exit.inBlock id' (k.Q X) (.exit id) a w
 have:id≠id':=by intro e;subst e;simp at hne
 simp only[Exit.inBlock,if_neg this]
 exact h a w ha hm
theorem TT.weaken{c:Code}{R':ee}{hs':List Chunk}(hr:aa R' R)(hm:bp hs hs')(h:TT X c k R' hs'):TT X c k R hs:=
 fun a w ha hw=>h a w (ha.sub hr) (hw.kf hm)
theorem KT.weaken{R':ee}{hs':List Chunk}(hr:aa R' R)(hm:bp hs hs')(h:KT X k R' hs'):KT X k R hs:=
 fun a w ha hw=>h a w (ha.sub hr) (hw.kf hm)
theorem OT.weaken{ops:Array Oper}{l:List Oper}{R':ee}{hs':List Chunk}(hr:aa R' R)(hm:bp hs hs')(h:OT X ops l k R' hs'):OT X ops l k R hs:=
 fun a w ha hw=>h a w (ha.sub hr) (hw.kf hm)
theorem TT.jo{c:Code}(h:TT X c k R ([]::hs)):TT X c k R hs:=fun a w ha hw=>h a w ha (by rw[<-bp.none];exact hw)
theorem KT.jo(h:KT X k R ([]::hs)):KT X k R hs:=fun a w ha hw=>h a w ha (by rw[<-bp.none];exact hw)
theorem OT.jo{ops:Array Oper}{l:List Oper}(h:OT X ops l k R ([]::hs)):OT X ops l k R hs:=fun a w ha hw=>h a w ha (by rw[<-bp.none];exact hw)
def Inv{ι:Type}(X:Cx)(A:ι->Prop)(m:ι->Nat)(S:ι->ee)(H:ι->List Chunk)(bound:Nat)(a:Act)(w:World):Prop:=
 ∃j,A j/\m j<bound/\Fits X.n (S j) a/\Mem (H j) w
theorem TT.loop{ι:Type}(A:ι->Prop)(m:ι->Nat)(S:ι->ee)(H:ι->List Chunk){c:Code}(i:ι)(hi:A i)(hr:aa (S i) R)(hm:bp hs (H i))
 (round:∀j,A j->TT X c (.loop (Inv X A m S H (m j)) k) (S j) (H j)):TT X (.loop c) k R hs:=by
 intro a w ha hw
 refine wp_loop_ghost (fun n a w=>∃j,m j=n/\A j/\Fits X.n (S j) a/\Mem (H j) w) (m i) ⟨i,rfl,hi,ha.sub hr,hw.kf hm⟩ ?_
 rintro n a w ⟨j,rfl,hj,ha,hw⟩
 refine wp_mono (round j hj a w ha hw) ?_
 intro e a' w' hq
 cases e with
 |normal=>
  obtain⟨j',hA,hlt,hF,hM⟩:=hq
  exact⟨m j',hlt,j',rfl,hA,hF,hM⟩
 |exit id=>exact hq
 |goto l=>exact hq
 |ret=>exact hq
 |panic ch=>exact hq
 |outgrown=>exact hq
theorem KT.loop{ι:Type}{A:ι->Prop}{m:ι->Nat}{S:ι->ee}{H:ι->List Chunk}{b:Nat}(j:ι)(hj:A j)(hlt:m j<b)(hr:aa (S j) R)(hm:bp hs (H j)):
 KT X (.loop (Inv X A m S H b) k) R hs:=fun _ _ ha hw=>⟨j,hj,hlt,ha.sub hr,hw.kf hm⟩
theorem TT.cut{ι:Type}(A:ι->Prop)(S:ι->ee)(H:ι->List Chunk){x y:Code}
 (h:TT X x (.loop (fun a w=>∃j,A j/\Fits X.n (S j) a/\Mem (H j) w) k) R hs)(hy:∀j,A j->TT X y k (S j) (H j)):TT X (.seq x y) k R hs:=by
 intro a w ha hm
 refine wp_seq (wp_mono (h a w ha hm) ?_)
 intro e a' w' hq
 cases e with
 |normal=>obtain⟨j,hA,hF,hM⟩:=hq;exact hy j hA a' w' hF hM
 |exit id=>exact hq
 |goto l=>exact hq
 |ret=>exact hq
 |panic ch=>exact hq
 |outgrown=>exact hq
theorem KT.cut{ι:Type}{A:ι->Prop}{S:ι->ee}{H:ι->List Chunk}(j:ι)(hj:A j)(hr:aa (S j) R)(hm:bp hs (H j)):
 KT X (.loop (fun a w=>∃j,A j/\Fits X.n (S j) a/\Mem (H j) w) k) R hs:=fun _ _ ha hw=>⟨j,hj,ha.sub hr,hw.kf hm⟩
omit [au] in
theorem jc(P:Program)(ops:Array Oper)(Q:Exit->Act->World->Prop):wpOps P ops Q (List.range ops.size)=wpList P ops Q ops.toList:=by
 have h:=wpOps_eq_wpList (P:=P) (ops:=ops) (Q:=Q) ops.toList 0 (by intro j;simp)
 rw[<-h,List.range_eq_range']
 simp
theorem TT.region{id:Nat}{ops:Array Oper}(h:OT X ops ops.toList k R hs):TT X (.region id ops false) k R hs:=
 fun a w ha hm=>wp_region (by rw[jc];exact h a w ha hm)
theorem OT.nil{ops:Array Oper}(h:KT X k R hs):OT X ops [] k R hs:=fun a w ha hm=>h a w ha hm
def dX(ops:Array Oper)(R:ee):Option (Nat×Bool)->Option Bool
 |none=>some true
 |some (j,want)=>match(ops[j]?).bind (·.dst)with
  |none=>none
  |some t=>match look R t with
   |some (.bool b)=>some (b==want)
   |some (.tuple _)=>some false
   |_=>none
omit [au] in
theorem fP{ops:Array Oper}{n:Nat}{a:Act}(ha:Fits n R a){o:Oper}{b:Bool}(h:dX ops R o.guard=some b):Region.wanted o (yielded ops a.tmps)=b:=by
 unfold Region.wanted
 cases hg:o.guard with
 |none=>rw[hg]at h;exact Option.some.inj h
 |some p=>
  obtain⟨j,want⟩:=p
  rw[hg]at h
  simp only[dX]at h
  split at h
  . cases h
  . rename_i t ht
    split at h
    . rename_i v hv
      have hx:=ha.jX t _ hv
      have:a.tmps[t]? =some (.bool v):=by
       rw[Array.getD_eq_getD_getElem?]at hx
       cases e:a.tmps[t]?with
       |none=>rw[e]at hx;simp[undef]at hx
       |some u=>rw[e]at hx;simp at hx;rw[hx]
      simp only[yielded,ht,Option.bind_some,this]
      obtain rfl:=Option.some.inj h
      cases v<;>cases want<;>rfl
    . rename_i vs hv
      have hx:=ha.jX t _ hv
      obtain rfl:=Option.some.inj h
      have:∀c,a.tmps[t]?≠some (.bool c):=by
       intro c e
       rw[Array.getD_eq_getD_getElem?,e]at hx
       cases hx
      simp only[yielded,ht,Option.bind_some]
      cases e:a.tmps[t]?with
      |none=>rfl
      |some u=>cases u<;>first|rfl|exact(this _ e).elim
    . cases h
def Ho(op:BinOp)(k:IntKind)(a b:Int):Option Value:=
 match op with
 | .add=>some (.int k (k.wrap (a+b)))
 | .sub=>some (.int k (k.wrap (a-b)))
 | .mul=>some (.int k (k.wrap (a*b)))
 | .and=>some (.int k (k.wrap (BitVec.ofInt k.bits a&&&BitVec.ofInt k.bits b).toNat))
 | .or=>some (.int k (k.wrap (BitVec.ofInt k.bits a|||BitVec.ofInt k.bits b).toNat))
 | .xor=>some (.int k (k.wrap (BitVec.ofInt k.bits a^^^BitVec.ofInt k.bits b).toNat))
 | .andNot=>some (.int k (k.wrap (BitVec.ofInt k.bits a&&& ~~~BitVec.ofInt k.bits b).toNat))
 | .eql=>some (.bool (a==b))
 | .neq=>some (.bool (a !=b))
 | .lss=>some (.bool (decide (a<b)))
 | .leq=>some (.bool (decide (a<=b)))
 | .gtr=>some (.bool (decide (a>b)))
 | .geq=>some (.bool (decide (a>=b)))
 | .quo=>if b=0 then none else some (.int k (k.wrap (a.tdiv b)))
 | .rem=>if b=0 then none else some (.int k (a.tmod b))
 |_=>none
def Nm(op:BinOp)(a b:ByteArray):Option Value:=
 match op with
 | .eql=>some (.bool (decide (a=b)))
 | .neq=>some (.bool (!decide (a=b)))
 | .lss=>some (.bool (Op.bytesLess a.data.toList b.data.toList))
 | .leq=>some (.bool (Op.bytesLess a.data.toList b.data.toList||decide (a=b)))
 | .gtr=>some (.bool (!(Op.bytesLess a.data.toList b.data.toList||decide (a=b))))
 | .geq=>some (.bool (!Op.bytesLess a.data.toList b.data.toList))
 |_=>none
def bin(op:BinOp)(x y:Value):Option Value:=
 match x,y with
 | .int k a,.int k' b=>
   match op with
   | .shl=>if b<0 then none else some (.int k (k.wrap (a*2^min b.toNat k.bits)))
   | .shr=>if b<0 then none else some (.int k (a.fdiv (2^min b.toNat k.bits)))
   |_=>if k=k' then Ho op k a b else none
 | .string a,.string b=>Nm op a b
 |_,_=>none
omit [au] in
theorem Lf(a b:ByteArray):(a.data.toList==b.data.toList)=decide (a=b):=by
 by_cases h:a=b
 . subst h;simp
 . have:¬a.data.toList=b.data.toList:=by
    intro e;apply h;cases a;cases b;simp at e;simp[e]
   rw[decide_eq_false h]
   exact beq_eq_false_iff_ne.2 this
omit [au] in
theorem Lg{op:BinOp}{x y v:Value}(h:bin op x y=some v)(P:Program)(t:TypeId)(ox oy:Operand)(w:World):
 (do eqGuard op t ox oy x y;binOp op t x y:Sem Value).run P w= .ok v w:=by
 unfold bin at h
 split at h
 . rename_i k a k' b
   have hg:((eqGuard op t ox oy (.int k a) (.int k' b))>>=fun _=>binOp op t (.int k a) (.int k' b)).run P w=(binOp op t (.int k a) (.int k' b)).run P w:=by
    cases op<;>simp[eqGuard]
   refine hg.trans ?_
   split at h
   . split at h
     . cases h
     . rename_i hb
       obtain rfl:=Option.some.inj h
       simp[binOp,Op.shift,hb]
   . split at h
     . cases h
     . rename_i hb
       obtain rfl:=Option.some.inj h
       simp[binOp,Op.shift,hb]
   . split at h
     . rename_i h1 h2 hk
       subst hk
       unfold Ho at h
       split at h
       case h_14=>
        split at h
        . cases h
        . rename_i hb
          obtain rfl:=Option.some.inj h
          simp[binOp,Op.intDiv,hb]
       case h_15=>
        split at h
        . cases h
        . rename_i hb
          obtain rfl:=Option.some.inj h
          simp[binOp,Op.intDiv,hb]
       case h_16=>cases h
       all_goals
        obtain rfl:=Option.some.inj h
        simp[binOp,Op.intArith,Op.intBits,Op.intCmp,bne]
     . cases h
 . rename_i a b
   have hg:((eqGuard op t ox oy (.string a) (.string b))>>=fun _=>binOp op t (.string a) (.string b)).run P w=(binOp op t (.string a) (.string b)).run P w:=by
    cases op<;>simp[eqGuard]
   refine hg.trans ?_
   unfold Nm at h
   split at h
   case h_7=>cases h
   all_goals
    obtain rfl:=Option.some.inj h
    simp only[binOp,Op.stringOp,ByteArray.toList_eq,Lf]
    rfl
 . cases h
def un(op:UnOp)(x:Value):Option Value:=
 match op,x with
 | .not,.bool b=>some (.bool (!b))
 | .xor,.int k n=>some (.int k (k.wrap (BitVec.ofInt k.bits (if k.signed then -1 else k.max)^^^BitVec.ofInt k.bits n).toNat))
 | .neg,.int k n=>some (.int k (k.wrap (0-n)))
 |_,_=>none
omit [au] in
theorem N_{op:UnOp}{x v:Value}(h:un op x=some v)(P:Program)(w:World):(Op.unary op x).run P w= .ok v w:=by
 unfold un at h
 split at h
 . obtain rfl:=Option.some.inj h;simp[Op.unary]
 . obtain rfl:=Option.some.inj h;simp[Op.unary,Op.intBits]
 . obtain rfl:=Option.some.inj h;simp[Op.unary,Op.intArith]
 . cases h
inductive TD
 |one(d:TypeDesc)
 |slice(e:Nat)(sz:Nat)
 |arr(n:Nat)(e:Nat)(sz:Nat)
 |struct(fs:List (Nat×Nat))(sz:Nat)
inductive e_(P:Program):List Field->List (Nat×Nat)->Prop
 |nil:e_ P [] []
 |cons {f:Field} {o s:Nat} {F:List Field} {fs:List (Nat×Nat)}:f.offset=o->(∀w,(sizeOf f.type).run P w= .ok (s+1) w)->e_ P F fs->e_ P (f::F) ((o,s+1)::fs)
omit [au] in
theorem e_.get{P:Program}{F:List Field}{fs:List (Nat×Nat)}(h:e_ P F fs):∀{i:Nat} {p:Nat×Nat},fs[i]? =some p->
 ∃f,F[i]? =some f/\f.offset=p.1/\∃s,p.2=s+1/\∀w,(sizeOf f.type).run P w= .ok (s+1) w:=by
 induction h with
 |nil=>intro i p hp;simp at hp
 |cons ho hs _ ih=>
  intro i p hp
  cases i with
  |zero=>simp at hp;subst hp;exact⟨_,rfl,ho,_,rfl,hs⟩
  |succ i=>exact ih (by simpa using hp)
omit [au] in
theorem e_.length{P:Program}{F:List Field}{fs:List (Nat×Nat)}(h:e_ P F fs):F.length=fs.length:=by
 induction h with
 |nil=>rfl
 |cons _ _ _ ih=>simp[ih]
def TD.is(P:Program)(t:Nat):TD->Prop
 | .one d=>P.underlying t=some d/\(∀w,(isAgg t).run P w= .ok false w)/\(∀w,(sizeOf t).run P w= .ok 1 w)
 | .slice e sz=>P.underlying t=some (.slice e)/\(∀w,(sizeOf e).run P w= .ok sz w)/\(∀w,(isAgg t).run P w= .ok false w)/\(∀w,(sizeOf t).run P w= .ok 1 w)
 | .arr n e sz=>P.underlying t=some (.array n e)/\(∀w,(sizeOf e).run P w= .ok sz w)/\(∀w,(isAgg t).run P w= .ok true w)/\(∀w,(sizeOf t).run P w= .ok (n*sz) w)
 | .struct fs sz=>(∃F,P.underlying t=some (.struct F)/\e_ P F.toList fs)/\(∀w,(isAgg t).run P w= .ok true w)/\(∀w,(sizeOf t).run P w= .ok sz w)
abbrev aE:=List (Nat×TD)
def aE.ok(P:Program)(T:aE):Prop:=∀p∈T,p.2.is P p.1
omit [au] in
theorem aE.ok.nil{P:Program}:aE.ok P []:=fun p hp=>by cases hp
omit [au] in
theorem aE.ok.cons{P:Program}{t:Nat}{d:TD}{T:aE}(h:d.is P t)(hT:T.ok P):aE.ok P ((t,d)::T):=fun p hp=>by
 rcases List.mem_cons.1 hp with rfl|hp
 . exact h
 . exact hT p hp
def ty:aE->Nat->Option TD
 |[],_=>none
 |p::r,t=>cond (Nat.beq p.1 t) (some p.2) (ty r t)
omit [au] in
theorem aE.ok.ty{P:Program}{T:aE}(h:T.ok P){t:Nat}{d:TD}(ht:ty T t=some d):d.is P t:=by
 induction T with
 |nil=>simp[Sx.ty]at ht
 |cons p r ih=>
  simp only[Sx.ty]at ht
  cases hb:Nat.beq p.1 t with
  |true=>
   rw[hb]at ht
   have e:=Nat.eq_of_beq_eq_true hb
   obtain rfl:=Option.some.inj ht
   have:=h p (by simp)
   rw[e]at this
   exact this
  |false=>
   rw[hb]at ht
   exact ih (fun q hq=>h q (by simp[hq])) ht
omit [au] in
theorem TD.is.some{P:Program}{t:Nat}{d:TD}(h:d.is P t):∃u,P.underlying t=some u:=by
 cases d with
 |one d=>exact⟨_,h.1⟩
 |slice e sz=>exact⟨_,h.1⟩
 |arr n e sz=>exact⟨_,h.1⟩
 |struct th sz=>obtain⟨⟨fs,h,_⟩,_⟩:=h;exact⟨_,h⟩
def D6(T:aE)(R:ee):Op->Option Value
 | .move x=>ev R x
 | .assign x=>ev R x
 | .pick c a b=>match ev R c,ev R a,ev R b with
   |some (.bool t),some u,some v=>some (cond t u v)
   |_,_,_=>none
 | .binOp op t x y _=>match ev R x,ev R y with
   |some (.bool a),some (.bool b)=>match op,ty T t with
    | .eql,some (.one .bool)=>some (.bool (a==b))
    | .neq,some (.one .bool)=>some (.bool (!(a==b)))
    |_,_=>none
   |some (.pointer p),some (.pointer none)=>match op,ty T t with
    | .eql,some (.one (.pointer _))=>some (.bool p.isNone)
    | .neq,some (.one (.pointer _))=>some (.bool (!p.isNone))
    |_,_=>none
   |some (.slice p _ _),some (.slice none _ _)=>match op,ty T t with
    | .eql,some (.slice _ _)=>some (.bool p.isNone)
    | .neq,some (.slice _ _)=>some (.bool (!p.isNone))
    |_,_=>none
   |some (.iface _ _),some .nilIface=>match op,ty T t with
    | .eql,some (.one (.interface _))=>some (.bool false)
    | .neq,some (.one (.interface _))=>some (.bool true)
    |_,_=>none
   |some (.func _ _ _),some .nilFunc=>match op,ty T t with
    | .eql,some (.one (.func _ _ _))=>some (.bool false)
    | .neq,some (.one (.func _ _ _))=>some (.bool true)
    |_,_=>none
   |some u,some v=>bin op u v
   |_,_=>none
 | .unOp op _ x=>match ev R x with
   |some u=>un op u
   |none=>none
 | .extract x i=>match ev R x with
   |some (.tuple vs)=>vs.toList[i]?
   |_=>none
 | .nilCheck x=>match ev R x with
   |some (.pointer (some p))=>some (.pointer (some p))
   |some (.iface t v)=>some (.iface t v)
   |some (.func (.func f) a b)=>some (.func (.func f) a b)
   |_=>none
 | .convert s d x=>match ev R x with
   |some (.int _ n)=>match ty T s,ty T d with
    |some _,some (.one (.int k))=>some (.int k (k.wrap n))
    |_,_=>none
   |_=>none
 | .fieldAddr s x f=>match ev R x with
   |some (.pointer (some ⟨b,o,none⟩))=>match ty T s with
    |some (.struct th _)=>match th[f]?with
     |some p=>some (.pointer (some ⟨b,o+p.1,none⟩))
     |none=>none
    |_=>none
   |_=>none
 | .call c=>match c.callee with
   | .builtin .len=>match c.args.toList,c.argTypes.toList with
     |[x],[t]=>match ev R x,ty T t with
      |some (.slice _ n _),some (.slice _ _)=>some (.int .i64 n)
      |some (.string s),some (.one .string)=>some (.int .i64 s.size)
      |_,_=>none
     |_,_=>none
   | .builtin .min=>match ng R c.args.toList with
     |some [.int k a,.int _ b]=>some (.int k (min a b))
     |_=>none
   | .builtin .max=>match ng R c.args.toList with
     |some [.int k a,.int _ b]=>some (.int k (max a b))
     |_=>none
   |_=>none
 | .makeFunc fn first caps=>match ng R first.toList,ng R caps.toList with
   |some a,some b=>some (.func fn ⟨a⟩ ⟨b⟩)
   |_,_=>none
 |_=>none
omit [au] in
theorem fZ{n:Nat}{R:ee}{a:Act}(ha:Fits n R a){xs:Array Operand}{vs:List Value}(h:ng R xs.toList=some vs):xs.map a.eval=⟨vs⟩:=by
 have:=ha.ng h
 apply Array.ext'
 simpa using this
omit [au] in
theorem sE{P:Program}{t:TypeId}(hu:P.underlying t=some .bool)(a b:Bool)(w:World):(Op.equal t (.bool a) (.bool b)).run P w= .ok (a==b) w:=by
 show(Op.equalIn (9999+1) t (.bool a) (.bool b)).run P w=_
 rw[Op.equalIn,Sem.run_bind,run_underlying hu]
 rfl
omit [au] in
theorem uz{P:Program}{t e:TypeId}(hu:P.underlying t=some (.pointer e))(p:Option Addr)(w:World):(Op.equal t (.pointer p) (.pointer none)).run P w= .ok p.isNone w:=by
 show(Op.equalIn (9999+1) t (.pointer p) (.pointer none)).run P w=_
 rw[Op.equalIn,Sem.run_bind,run_underlying hu]
 cases p<;>rfl
omit [au] in
theorem qF{P:Program}{t e:TypeId}(hu:P.underlying t=some (.slice e))(p:Option Addr)(a b c d:Nat)(w:World):(Op.equal t (.slice p a b) (.slice none c d)).run P w= .ok p.isNone w:=by
 show(Op.equalIn (9999+1) t (.slice p a b) (.slice none c d)).run P w=_
 rw[Op.equalIn,Sem.run_bind,run_underlying hu]
 cases p<;>rfl
omit [au] in
theorem qG{P:Program}{t:TypeId}{ms:Array (String×TypeId)}(hu:P.underlying t=some (.interface ms))(a:TypeId)(b:Value)(w:World):(Op.equal t (.iface a b) .nilIface).run P w= .ok false w:=by
 show(Op.equalIn (9999+1) t (.iface a b) .nilIface).run P w=_
 rw[Op.equalIn,Sem.run_bind,run_underlying hu]
 rfl
omit [au] in
theorem sF{P:Program}{t:TypeId}{ps rs:Array TypeId}{vd:Bool}(hu:P.underlying t=some (.func ps rs vd))(f:Fn)(a b:Array Value)(w:World):(Op.equal t (.func f a b) .nilFunc).run P w= .ok false w:=by
 show(Op.equalIn (9999+1) t (.func f a b) .nilFunc).run P w=_
 rw[Op.equalIn,Sem.run_bind,run_underlying hu]
 rfl
omit [au] in
theorem zT{X:Cx}{T:aE}(hT:T.ok X.P){R:ee}{a:Act}(ha:Fits X.n R a){o:Oper}{v:Value}(h:D6 T R o.op=some v)(w:World):
 (execOp a.eval o).run X.P w= .ok (.value v) w:=by
 unfold D6 at h
 split at h
 . rename_i x hop;simp[execOp,hop,ha.ev h]
 . rename_i x hop;simp[execOp,hop,ha.ev h]
 . rename_i c x y hop
   split at h
   . rename_i t u v' hc hx hy
     obtain rfl:=Option.some.inj h
     simp only[execOp,hop,ha.ev hc,ha.ev hx,ha.ev hy]
     cases t<;>simp[asBool]
   . cases h
 . rename_i op t x y _ hop
   split at h
   . rename_i p q hx hy
     split at h
     . rename_i ht
       obtain rfl:=Option.some.inj h
       have:=sE (hT.ty ht).1 p q w
       simp only[execOp,hop,ha.ev hx,ha.ev hy]
       rw[Sem.run_bind,Sem.run_bind]
       show Result.andThen (Result.andThen (Result.ok () w) fun _ w=>((Op.equal t (.bool p) (.bool q))>>=fun b=>pure (Value.bool b)).run X.P w) _=_
       simp only[Result.andThen_ok]
       rw[Sem.run_bind,this]
       rfl
     . rename_i ht
       obtain rfl:=Option.some.inj h
       have:=sE (hT.ty ht).1 p q w
       simp only[execOp,hop,ha.ev hx,ha.ev hy]
       rw[Sem.run_bind,Sem.run_bind]
       show Result.andThen (Result.andThen (Result.ok () w) fun _ w=>((Op.equal t (.bool p) (.bool q))>>=fun b=>pure (Value.bool (!b))).run X.P w) _=_
       simp only[Result.andThen_ok]
       rw[Sem.run_bind,this]
       rfl
     . cases h
   . rename_i p hx hy
     split at h
     . rename_i e ht
       obtain rfl:=Option.some.inj h
       have:=uz (hT.ty ht).1 p w
       simp only[execOp,hop,ha.ev hx,ha.ev hy]
       rw[Sem.run_bind,Sem.run_bind]
       show Result.andThen (Result.andThen (Result.ok () w) fun _ w=>((Op.equal t (.pointer p) (.pointer none))>>=fun b=>pure (Value.bool b)).run X.P w) _=_
       simp only[Result.andThen_ok]
       rw[Sem.run_bind,this]
       rfl
     . rename_i e ht
       obtain rfl:=Option.some.inj h
       have:=uz (hT.ty ht).1 p w
       simp only[execOp,hop,ha.ev hx,ha.ev hy]
       rw[Sem.run_bind,Sem.run_bind]
       show Result.andThen (Result.andThen (Result.ok () w) fun _ w=>((Op.equal t (.pointer p) (.pointer none))>>=fun b=>pure (Value.bool (!b))).run X.P w) _=_
       simp only[Result.andThen_ok]
       rw[Sem.run_bind,this]
       rfl
     . cases h
   . rename_i p a1 b1 c1 d1 hx hy
     split at h
     . rename_i e sz ht
       obtain rfl:=Option.some.inj h
       have:=qF (hT.ty ht).1 p a1 b1 c1 d1 w
       simp only[execOp,hop,ha.ev hx,ha.ev hy]
       rw[Sem.run_bind,Sem.run_bind]
       show Result.andThen (Result.andThen (Result.ok () w) fun _ w=>((Op.equal t (.slice p a1 b1) (.slice none c1 d1))>>=fun b=>pure (Value.bool b)).run X.P w) _=_
       simp only[Result.andThen_ok]
       rw[Sem.run_bind,this]
       rfl
     . rename_i e sz ht
       obtain rfl:=Option.some.inj h
       have:=qF (hT.ty ht).1 p a1 b1 c1 d1 w
       simp only[execOp,hop,ha.ev hx,ha.ev hy]
       rw[Sem.run_bind,Sem.run_bind]
       show Result.andThen (Result.andThen (Result.ok () w) fun _ w=>((Op.equal t (.slice p a1 b1) (.slice none c1 d1))>>=fun b=>pure (Value.bool (!b))).run X.P w) _=_
       simp only[Result.andThen_ok]
       rw[Sem.run_bind,this]
       rfl
     . cases h
   . rename_i a1 b1 hx hy
     split at h
     . rename_i ms ht
       obtain rfl:=Option.some.inj h
       have:=qG (hT.ty ht).1 a1 b1 w
       simp only[execOp,hop,ha.ev hx,ha.ev hy]
       rw[Sem.run_bind,Sem.run_bind]
       show Result.andThen (Result.andThen (Result.ok () w) fun _ w=>((Op.equal t (.iface a1 b1) .nilIface)>>=fun b=>pure (Value.bool b)).run X.P w) _=_
       simp only[Result.andThen_ok]
       rw[Sem.run_bind,this]
       rfl
     . rename_i ms ht
       obtain rfl:=Option.some.inj h
       have:=qG (hT.ty ht).1 a1 b1 w
       simp only[execOp,hop,ha.ev hx,ha.ev hy]
       rw[Sem.run_bind,Sem.run_bind]
       show Result.andThen (Result.andThen (Result.ok () w) fun _ w=>((Op.equal t (.iface a1 b1) .nilIface)>>=fun b=>pure (Value.bool (!b))).run X.P w) _=_
       simp only[Result.andThen_ok]
       rw[Sem.run_bind,this]
       rfl
     . cases h
   . rename_i f1 a1 b1 hx hy
     split at h
     . rename_i ps rs vd ht
       obtain rfl:=Option.some.inj h
       have:=sF (hT.ty ht).1 f1 a1 b1 w
       simp only[execOp,hop,ha.ev hx,ha.ev hy]
       rw[Sem.run_bind,Sem.run_bind]
       show Result.andThen (Result.andThen (Result.ok () w) fun _ w=>((Op.equal t (.func f1 a1 b1) .nilFunc)>>=fun b=>pure (Value.bool b)).run X.P w) _=_
       simp only[Result.andThen_ok]
       rw[Sem.run_bind,this]
       rfl
     . rename_i ps rs vd ht
       obtain rfl:=Option.some.inj h
       have:=sF (hT.ty ht).1 f1 a1 b1 w
       simp only[execOp,hop,ha.ev hx,ha.ev hy]
       rw[Sem.run_bind,Sem.run_bind]
       show Result.andThen (Result.andThen (Result.ok () w) fun _ w=>((Op.equal t (.func f1 a1 b1) .nilFunc)>>=fun b=>pure (Value.bool (!b))).run X.P w) _=_
       simp only[Result.andThen_ok]
       rw[Sem.run_bind,this]
       rfl
     . cases h
   . rename_i u u' _ _ _ _ _ hx hy
     have:=Lg h X.P t x y w
     simp only[execOp,hop,ha.ev hx,ha.ev hy]
     rw[show(do pure (Next.value (<-(do eqGuard op t x y u u';binOp op t u u'))):Sem Next)=((do eqGuard op t x y u u';binOp op t u u'):Sem Value)>>=fun z=>pure (Next.value z)from rfl,Sem.run_bind,this]
     rfl
   . cases h
 . rename_i op t x hop
   split at h
   . rename_i u hx
     have:=N_ h X.P w
     simp only[execOp,hop,ha.ev hx]
     rw[Sem.run_bind,this]
     rfl
   . cases h
 . rename_i x i hop
   split at h
   . rename_i vs hx
     rw[Array.getElem?_toList]at h
     simp[execOp,hop,ha.ev hx,Instr.extract,h]
   . cases h
 . rename_i x hop
   split at h
   . rename_i p hx
     obtain rfl:=Option.some.inj h
     simp[execOp,hop,ha.ev hx]
   . rename_i t v hx
     obtain rfl:=Option.some.inj h
     simp[execOp,hop,ha.ev hx]
   . rename_i f a1 b1 hx
     obtain rfl:=Option.some.inj h
     simp[execOp,hop,ha.ev hx]
   . cases h
 . rename_i s d x hop
   split at h
   . rename_i k n hx
     split at h
     . rename_i ds k' hs hd
       obtain rfl:=Option.some.inj h
       obtain⟨us,Mk⟩:=(hT.ty hs).some
       have U_:=(hT.ty hd).1
       simp only[execOp,hop,ha.ev hx]
       rw[Sem.run_bind]
       have:(convert s d (.int k n)).run X.P w= .ok (.int k' (k'.wrap n)) w:=by
        unfold convert
        rw[Sem.run_bind,run_underlying Mk]
        show(underlying d>>=_).run X.P w=_
        rw[Sem.run_bind,run_underlying U_]
        cases us<;>simp[Conv.intToInt]
       rw[this]
       rfl
     . cases h
   . cases h
 . rename_i s x f hop
   split at h
   . rename_i b off hx
     split at h
     . rename_i th hs
       split at h
       . rename_i off' hf
         obtain rfl:=Option.some.inj h
         obtain⟨⟨F,hu,hF⟩,_⟩:=hT.ty hs
         simp only[execOp,hop,ha.ev hx]
         rw[Sem.run_bind]
         obtain⟨fd,Va,hoff,n,_,hn⟩:=hF.get hf
         have Rx:F[f]? =some fd:=by simpa using Va
         have this:(Instr.fieldAt s (.pointer (some ⟨b,off,none⟩)) f).run X.P w= .ok (.pointer (some ⟨b,off+off'.1,none⟩)) w:=by
          unfold Instr.fieldAt
          rw[Sem.run_bind,run_underlying hu]
          simp only[Result.andThen_ok,Rx,Instr.sureAddr,fieldPlace]
          rw[Sem.run_bind]
          simp only[Sem.run_pure,Result.andThen_ok]
          rw[Sem.run_bind,Sem.run_bind,hn]
          simp only[Result.andThen_ok,Nat.succ_ne_zero,if_false,Sem.run_pure,hoff]
          congr 3
          unfold Addr.add
          split<;>simp_all
         rw[this]
         rfl
       . cases h
     . cases h
   . cases h
 . rename_i c hop
   split at h
   . rename_i CA
     split at h
     . rename_i x t hargs Nn
       split at h
       . rename_i b n cap e sz hx ht
         obtain rfl:=Option.some.inj h
         have hu:=(hT.ty ht).1
         have e1:c.args= #[x]:=by rw[<-hargs]
         have e2:c.argTypes= #[t]:=by rw[<-Nn]
         simp[execOp,hop,resolve,CA,e1,e2,ha.ev hx,invoke,builtin,Builtin.len_,run_underlying hu,goInt]
       . rename_i s hx ht
         obtain rfl:=Option.some.inj h
         have hu:=(hT.ty ht).1
         have e1:c.args= #[x]:=by rw[<-hargs]
         have e2:c.argTypes= #[t]:=by rw[<-Nn]
         simp[execOp,hop,resolve,CA,e1,e2,ha.ev hx,invoke,builtin,Builtin.len_,run_underlying hu,goInt]
       . cases h
     . cases h
   . rename_i CA
     split at h
     . rename_i k a' k' b hargs
       obtain rfl:=Option.some.inj h
       have e1:=fZ ha hargs
       have e2:(if b<a' then b else a')=min a' b:=by omega
       simp[execOp,hop,resolve,CA,e1,invoke,builtin,Builtin.min_,Builtin.min2,e2]
     . cases h
   . rename_i CA
     split at h
     . rename_i k a' k' b hargs
       obtain rfl:=Option.some.inj h
       have e1:=fZ ha hargs
       have e2:(if b>a' then b else a')=max a' b:=by omega
       simp[execOp,hop,resolve,CA,e1,invoke,builtin,Builtin.max_,Builtin.max2,e2]
     . cases h
   . cases h
 . rename_i fn first caps hop
   split at h
   . rename_i a' b h1 h2
     obtain rfl:=Option.some.inj h
     simp[execOp,hop,Instr.makeFunc,fZ ha h1,fZ ha h2]
   . cases h
 . cases h
def CB(T:aE)(n:Nat)(ops:Array Oper):Nat->ee->List Oper->Option (ee×List Oper)
 |0,R,l=>some (R,l)
 |m+1,R,o::l=>match dX ops R o.guard,o.dst with
  |some true,some d=>match D6 T R o.op with
   |some v=>cond (Nat.ble (d+1) n) (CB T n ops m ((d,v)::R) l) none
   |none=>none
  |some false,some d=>cond (Nat.ble (d+1) n) (CB T n ops m ((d,undef)::R) l) none
  |_,_=>none
 |_+1,_,[]=>none
theorem OT.U{X:Cx}{k:dx}{hs:List Chunk}{ops:Array Oper}{T:aE}(hT:T.ok X.P)(m:Nat):∀{R:ee} {l:List Oper} {R':ee} {l':List Oper},
 CB T X.n ops m R l=some (R',l')->OT X ops l' k R' hs->OT X ops l k R hs:=by
 induction m with
 |zero=>
  intro R l R' l' h hk
  simp only[CB,Option.some.injEq,Prod.mk.injEq]at h
  obtain⟨rfl,rfl⟩:=h
  exact hk
 |succ m ih=>
  intro R l R' l' h hk
  cases l with
  |nil=>simp[CB]at h
  |cons o l=>
   simp only[CB]at h
   intro a w ha hm
   simp only[wpList]
   split at h
   . rename_i d hg hd
     rw[fP ha hg,if_pos rfl]
     split at h
     . rename_i v hv
       cases hb:Nat.ble (d+1) X.n with
       |false=>rw[hb]at h;cases h
       |true=>
        rw[hb]at h
        refine Or.inl ?_
        unfold Oper.wp
        rw[zT hT ha hv w,Oper.upon_value,hd]
        exact ih h hk _ _ (ha.put hb v) hm
     . cases h
   . rename_i d hg hd
     rw[fP ha hg,if_neg (by simp)]
     cases hb:Nat.ble (d+1) X.n with
     |false=>rw[hb]at h;cases h
     |true=>
      rw[hb]at h
      rw[hd]
      exact ih h hk _ _ (ha.put hb undef) hm
   . cases h
end
end Go.Sx
end
section
namespace Go.Sx
open Go
variable[au]
abbrev blk(cs:List Value)(t:Nat)(fr:Nat×Nat):Obj:= .cells ⟨cs⟩ t fr
section
variable{P:Program}{hs:List Chunk}
omit [au] in
theorem bX(b o n:Nat):(⟨b,o,none⟩:Addr).add n=⟨b,o+n,none⟩:=by
 unfold Addr.add
 split<;>simp_all
theorem Mem.cell{w:World}(h:Mem hs w){b:Nat}{cs:List Value}{t:Nat}{fr:Nat×Nat}(hb:Has hs b (blk cs t fr))(o:Nat):
 w.cell? ⟨b,o,none⟩=cs[o]? :=by
 have:=h.heap hb
 simp[World.cell?,this]
theorem Mem.loadCells{w:World}(h:Mem hs w){b:Nat}{cs:List Value}{t:Nat}{fr:Nat×Nat}(hb:Has hs b (blk cs t fr)){o n:Nat}{vs:List Value}
 (hv:(cs.drop o).take n=vs)(hn:vs.length=n):(loadCells ⟨b,o,none⟩ n).run P w= .ok ⟨vs⟩ w:=by
 subst hn
 refine run_loadCells_list w ⟨b,o,none⟩ vs ?_
 intro j v hj
 rw[bX,h.cell hb]
 rw[<-hv,List.getElem?_take]at hj
 split at hj
 . rw[List.getElem?_drop]at hj;exact hj
 . cases hj
def Ld(P:Program)(hs:List Chunk)(t:Nat)(ad:Addr)(v:Value):Prop:=∀w,Mem hs w->(loadVar t ad).run P w= .ok v w
theorem Ld.one{T:aE}(hT:T.ok P){t:Nat}{d:TypeDesc}(ht:ty T t=some (.one d)){b o:Nat}{cs:List Value}{e:Nat}{fr:Nat×Nat}(hb:Has hs b (blk cs e fr))
 {v:Value}(hv:cs[o]? =some v):Ld P hs t ⟨b,o,none⟩ v:=by
 intro w hm
 have ha:=(hT.ty ht).2.1 w
 unfold loadVar
 rw[Sem.run_bind,ha]
 have:=hm.cell hb o
 rw[hv]at this
 simp[load,Sem.run,this]
theorem Ld.slc{T:aE}(hT:T.ok P){t:Nat}{e' sz:Nat}(ht:ty T t=some (.slice e' sz)){b o:Nat}{cs:List Value}{e:Nat}{fr:Nat×Nat}(hb:Has hs b (blk cs e fr))
 {v:Value}(hv:cs[o]? =some v):Ld P hs t ⟨b,o,none⟩ v:=by
 intro w hm
 have ha:=(hT.ty ht).2.2.1 w
 unfold loadVar
 rw[Sem.run_bind,ha]
 have:=hm.cell hb o
 rw[hv]at this
 simp[load,Sem.run,this]
theorem Ld.E7{t n:Nat}(ha:∀w,(isAgg t).run P w= .ok true w)(hsz:∀w,(sizeOf t).run P w= .ok n w){b o:Nat}{cs:List Value}{e:Nat}{fr:Nat×Nat}(hb:Has hs b (blk cs e fr))
 {vs:List Value}(hv:(cs.drop o).take n=vs)(hn:vs.length=n):Ld P hs t ⟨b,o,none⟩ (.agg ⟨vs⟩):=by
 intro w hm
 unfold loadVar
 rw[Sem.run_bind,ha w]
 simp only[Result.andThen_ok,if_true]
 rw[Sem.run_bind,hsz w]
 simp only[Result.andThen_ok]
 rw[Sem.run_bind,hm.loadCells hb hv hn]
 rfl
theorem Ld.struct{T:aE}(hT:T.ok P){t:Nat}{th:List (Nat×Nat)}{n:Nat}(ht:ty T t=some (.struct th n)){b o:Nat}{cs:List Value}{e:Nat}{fr:Nat×Nat}(hb:Has hs b (blk cs e fr))
 {vs:List Value}(hv:(cs.drop o).take n=vs)(hn:vs.length=n):Ld P hs t ⟨b,o,none⟩ (.agg ⟨vs⟩):=
 Ld.E7 (hT.ty ht).2.1 (hT.ty ht).2.2 hb hv hn
theorem Ld.arr{T:aE}(hT:T.ok P){t:Nat}{m e' sz:Nat}(ht:ty T t=some (.arr m e' sz)){b o:Nat}{cs:List Value}{e:Nat}{fr:Nat×Nat}(hb:Has hs b (blk cs e fr))
 {vs:List Value}(hv:(cs.drop o).take (m*sz)=vs)(hn:vs.length=m*sz):Ld P hs t ⟨b,o,none⟩ (.agg ⟨vs⟩):=
 Ld.E7 (hT.ty ht).2.2.1 (hT.ty ht).2.2.2 hb hv hn
theorem Ld.af{T:aE}(hT:T.ok P){t:Nat}{th:List (Nat×Nat)}{n:Nat}(ht:ty T t=some (.struct th n)){b:Nat}{cs:List Value}{e:Nat}{fr:Nat×Nat}(hb:Has hs b (blk cs e fr))
 (hn:cs.length=n):Ld P hs t ⟨b,0,none⟩ (.agg ⟨cs⟩):=Ld.struct hT ht hb (by rw[List.drop_zero,<-hn,List.take_length]) hn
def splice(cs:List Value)(o:Nat)(vs:List Value):List Value:=cs.take o++vs++cs.drop (o+vs.length)
omit [au] in
theorem gy{cs:List Value}{o:Nat}{vs:List Value}(h:o+vs.length<=cs.length):(splice cs o vs).length=cs.length:=by
 simp[splice];omega
def gU:Value->Bool
 | .agg _| .tuple _=>false
 |_=>true
def dy(vs:List Value):Bool:=vs.all gU
def fy(cs:List Value)(fr:Nat×Nat):Prop:=fr.2<=fr.1\/cs.length<=fr.1
theorem Mem.store{b:Nat}{cs:List Value}{t:Nat}{fr:Nat×Nat}{w:World}(h:Mem ([(b,blk cs t fr)]::hs) w){o:Nat}(ho:o<cs.length){v:Value}(hv:gU v=true)
 (hf:fy cs fr):∃w',(store ⟨b,o,none⟩ v).run P w= .ok () w'/\Mem ([(b,blk (cs.set o v) t fr)]::hs) w':=by
 have hb:=h.heap (b:=b) (o:=blk cs t fr) Has.one
 have hc:=h.cell (b:=b) (cs:=cs) (t:=t) (fr:=fr) Has.one o
 rw[List.getElem?_eq_getElem ho]at hc
 have hfr:w.frozen? ⟨b,o,none⟩=false:=by
  simp only[World.frozen?,hb]
  rcases hf with hf|hf<;>simp<;>omega
 have hb':w.heap[b]? =some (blk cs t fr):=hb
 refine⟨w.setCell ⟨b,o,none⟩ v,?_,?_⟩
 . cases v<;>simp[gU]at hv<;>simp[Go.store,Sem.run,hc,hfr]
 . refine h.write ?_ ?_ ⟨rfl,rfl⟩
   . simp only[World.setCell]
     simp[Array.getElem?_modify,hb']
   . intro c GM
     simp only[World.setCell]
     rw[Array.getElem?_modify]
     rw[if_neg (fun e=>GM e.symm)]
theorem Mem.storeCells{b:Nat}{t:Nat}{fr:Nat×Nat}{o:Nat}(vs:List Value):∀{cs:List Value} {w:World} (i:Nat),Mem ([(b,blk cs t fr)]::hs) w->o+i+vs.length<=cs.length->dy vs=true->
 fy cs fr->∃w',(Go.storeCells ⟨b,o,none⟩ vs i).run P w= .ok () w'/\Mem ([(b,blk (splice cs (o+i) vs) t fr)]::hs) w':=by
 induction vs with
 |nil=>
  intro cs w i h hl _ hf
  refine⟨w,rfl,?_⟩
  simpa[splice]using h
 |cons v vs ih=>
  intro cs w i h hl hv hf
  simp only[dy,List.all_cons,Bool.and_eq_true]at hv
  simp only[List.length_cons]at hl
  obtain⟨w1,hr,hm⟩:=h.store (P:=P) (o:=o+i) (by omega) hv.1 hf
  obtain⟨w2,kg,hm2⟩:=ih (i+1) hm (by simp;omega) hv.2 (by simpa[fy]using hf)
  refine⟨w2,?_,?_⟩
  . simp only[Go.storeCells]
    rw[bX,Sem.run_bind,hr]
    exact kg
  . have e:splice (cs.set (o+i) v) (o+(i+1)) vs=splice cs (o+i) (v::vs):=by
     simp only[splice]
     have:=list_seg_step cs (o+i) v vs (by omega)
     rw[show o+(i+1)=o+i+1 from by omega,this]
     simp
    rw[e]at hm2
    exact hm2
theorem oW{t n:Nat}(hsz:∀w,(sizeOf t).run P w= .ok n w){b o:Nat}{cs:List Value}{e:Nat}{fr:Nat×Nat}{w:World}(h:Mem ([(b,blk cs e fr)]::hs) w){v:Value}
 (hn:v.cells.toList.length=n)(hl:o+n<=cs.length)(h1:dy v.cells.toList=true)(hf:fy cs fr):
 ∃w',(storeVar t ⟨b,o,none⟩ v).run P w= .ok () w'/\Mem ([(b,blk (splice cs o v.cells.toList) e fr)]::hs) w':=by
 obtain⟨w',hr,hm⟩:=h.storeCells (P:=P) (o:=o) v.cells.toList 0 (by omega) h1 hf
 refine⟨w',?_,by simpa using hm⟩
 unfold storeVar
 rw[Sem.run_bind,hsz w]
 have:¬v.cells.size≠n:=by rw[<-hn];simp
 simp only[Result.andThen_ok,if_neg this]
 exact hr
def TD.size:TD->Nat
 | .one _=>1
 | .slice _ _=>1
 | .arr n _ sz=>n*sz
 | .struct _ sz=>sz
omit [au] in
theorem TD.is.sizeOf{t:Nat}{d:TD}(h:d.is P t)(w:World):(Go.sizeOf t).run P w= .ok d.size w:=by
 cases d with
 |one d=>exact h.2.2 w
 |slice e sz=>exact h.2.2.2 w
 |arr n e sz=>exact h.2.2.2 w
 |struct th sz=>exact h.2.2 w
end
section
variable{X:Cx}{k:dx}{R:ee}{hs:List Chunk}{ops:Array Oper}{l:List Oper}{T:aE}{d ty':Nat}{pos:String}{after:Array Edge}{gd:Option (Nat×Bool)}
theorem OT.value{o:Oper}(hg:dX ops R o.guard=some true)(hd:o.dst=some d)(hdn:Nat.ble (d+1) X.n=true)
 (h:∀a w,Fits X.n R a->Mem hs w->∃v hs' w',(execOp a.eval o).run X.P w= .ok (.value v) w'/\Mem hs' w'/\OT X ops l k ((d,v)::R) hs'):OT X ops (o::l) k R hs:=by
 intro a w ha hm
 obtain⟨v,hs',w',hr,hm',hk⟩:=h a w ha hm
 simp only[wpList]
 rw[fP ha hg,if_pos rfl]
 refine Or.inl ?_
 unfold Oper.wp
 rw[hr,Oper.upon_value,hd]
 exact hk _ _ (ha.put hdn v) hm'
theorem OT.BZ{o:Oper}(hg:dX ops R o.guard=some true)(hd:o.dst=none)
 (h:∀a w,Fits X.n R a->Mem hs w->∃hs' w',(execOp a.eval o).run X.P w= .ok .skip w'/\Mem hs' w'/\OT X ops l k R hs'):OT X ops (o::l) k R hs:=by
 intro a w ha hm
 obtain⟨hs',w',hr,hm',hk⟩:=h a w ha hm
 simp only[wpList]
 rw[fP ha hg,if_pos rfl]
 refine Or.inl ?_
 unfold Oper.wp
 rw[hr,Oper.upon_skip,hd]
 exact hk _ _ ha hm'
theorem OT.split(t:Nat){b:Bool}(hb:look R t=some (.bool b))(ht:b=true->OT X ops l k ((t,.bool true)::R) hs)(hf:b=false->OT X ops l k ((t,.bool false)::R) hs):OT X ops l k R hs:=by
 intro a w ha hm
 cases b with
 |true=>exact ht rfl a w ⟨ha.size,ha.defers,fun u v h=>by
  rw[eN]at h
  by_cases e:t=u
  . subst e;rw[if_pos rfl]at h;exact ha.jX _ _ (hb.trans h)
  . rw[if_neg e]at h;exact ha.jX u v h⟩ hm
 |false=>exact hf rfl a w ⟨ha.size,ha.defers,fun u v h=>by
  rw[eN]at h
  by_cases e:t=u
  . subst e;rw[if_pos rfl]at h;exact ha.jX _ _ (hb.trans h)
  . rw[if_neg e]at h;exact ha.jX u v h⟩ hm
theorem OT.load{t:Nat}{x:Operand}{ad:Addr}{v:Value}(hg:dX ops R gd=some true)(hx:ev R x=some (.pointer (some ad)))(hl:Ld X.P hs t ad v)(hdn:Nat.ble (d+1) X.n=true)
 (h:OT X ops l k ((d,v)::R) hs):OT X ops (⟨some d,.load t x,ty',pos,after,gd⟩::l) k R hs:=by
 refine OT.value hg rfl hdn fun a w ha hm=>⟨v,hs,w,?_,hm,h⟩
 simp only[execOp,ha.ev hx,Instr.loadAt,Instr.sureAddr]
 have:=hl w hm
 simp[this]
theorem OT.box{t:Nat}{x:Operand}{v:Value}(hg:dX ops R gd=some true)(hx:ev R x=some v)(hdn:Nat.ble (d+1) X.n=true)
 (h:∀b,OT X ops l k ((d,.pointer (some ⟨b,0,none⟩))::R) ([(b,blk v.cells.toList t (0,0))]::hs)):OT X ops (⟨some d,.box t x,ty',pos,after,gd⟩::l) k R hs:=by
 refine OT.value hg rfl hdn fun a w ha hm=>⟨_,_,w.alloc (.cells v.cells t),?_,hm.alloc _,h w.heap.size⟩
 simp only[execOp,ha.ev hx,Instr.box,newVar,newRow]
 simp
theorem OT.alloc{t:Nat}{z:Value}(hz:∀w,(zeroValue t).run X.P w= .ok z w)(hg:dX ops R gd=some true)(hdn:Nat.ble (d+1) X.n=true)
 (h:∀b,OT X ops l k ((d,.pointer (some ⟨b,0,none⟩))::R) ([(b,blk z.cells.toList t (0,0))]::hs)):OT X ops (⟨some d,.alloc t,ty',pos,after,gd⟩::l) k R hs:=by
 refine OT.value hg rfl hdn fun a w ha hm=>⟨_,_,w.alloc (.cells z.cells t),?_,hm.alloc _,h w.heap.size⟩
 simp only[execOp,Instr.alloc,newVar,newRow]
 simp[hz]
theorem OT.store(hT:T.ok X.P){t:Nat}{D:TD}{x y:Operand}{b o:Nat}{v:Value}{cs cs':List Value}{e:Nat}{fr:Nat×Nat}{r:List Chunk}(ht:ty T t=some D)(hg:dX ops R gd=some true)(hx:ev R x=some (.pointer (some ⟨b,o,none⟩)))
 (hy:ev R y=some v)(hp:aR hs [(b,blk cs e fr)] r)(hn:v.cells.toList.length=D.size)(hl:o+D.size<=cs.length)(h1:dy v.cells.toList=true)(hf:fy cs fr)
 (hc:splice cs o v.cells.toList=cs')(h:OT X ops l k R ([(b,blk cs' e fr)]::r)):OT X ops (⟨none,.store t x y,ty',pos,after,gd⟩::l) k R hs:=by
 refine OT.BZ hg rfl fun a w ha hm=> ?_
 obtain⟨w',hr,hm'⟩:=oW (P:=X.P) (hT.ty ht).sizeOf (hm.pull hp) (o:=o) hn hl h1 hf
 rw[hc]at hm'
 refine⟨_,w',?_,hm',h⟩
 simp only[execOp,ha.ev hx,ha.ev hy,Instr.storeAt,Instr.sureAddr]
 simp[hr]
theorem OT.ag(hT:T.ok X.P){t:Nat}{D:TD}{x y:Operand}{b:Nat}{v:Value}{cs:List Value}{e:Nat}{fr:Nat×Nat}{r:List Chunk}(ht:ty T t=some D)(hg:dX ops R gd=some true)(hx:ev R x=some (.pointer (some ⟨b,0,none⟩)))
 (hy:ev R y=some v)(hp:aR hs [(b,blk cs e fr)] r)(hn:v.cells.toList.length=D.size)(hl:cs.length=D.size)(h1:dy v.cells.toList=true)(hf:fy cs fr)
 (h:OT X ops l k R ([(b,blk v.cells.toList e fr)]::r)):OT X ops (⟨none,.store t x y,ty',pos,after,gd⟩::l) k R hs:=
 OT.store hT ht hg hx hy hp hn (by omega) h1 hf (by simp only[splice,List.take_zero,List.nil_append,Nat.zero_add];rw[List.drop_eq_nil_of_le (by omega),List.append_nil]) h
def aA(P:Program)(f:Nat)(vs:List Value)(hs:List Chunk)(N:Value->List Chunk->Prop):Prop:=
 ∀w,Mem hs w->Calls P f ⟨vs⟩ w fun e w'=>∃v hs',e= .returned v/\N v hs'/\Mem hs' w'
theorem aA.mono{P:Program}{f:Nat}{vs:List Value}{N N':Value->List Chunk->Prop}(h:aA P f vs hs N)(hn:∀v hs',N v hs'->N' v hs'):aA P f vs hs N':=
 fun w hm=>(h w hm).mono fun _ _ ⟨v,hs',he,hN,hM⟩=>⟨v,hs',he,hn _ _ hN,hM⟩
theorem aA.weaken{P:Program}{f:Nat}{vs:List Value}{N:Value->List Chunk->Prop}{hs':List Chunk}(hsel:bp hs hs')(h:aA P f vs hs' N):aA P f vs hs N:=
 fun w hm=>h w (hm.kf hsel)
theorem aA.pull{P:Program}{f:Nat}{vs:List Value}{N:Value->List Chunk->Prop}{A:Chunk}{r:List Chunk}(hp:aR hs A r)(h:aA P f vs (A::r) N):aA P f vs hs N:=
 fun w hm=>h w (hm.pull hp)
theorem aA.jo{P:Program}{f:Nat}{vs:List Value}{N:Value->List Chunk->Prop}(h:aA P f vs ([]::hs) N):aA P f vs hs N:=
 fun w hm=>h w (by rw[<-bp.none];exact hm)
def Post(N:Value->List Chunk->Prop):Ending->World->Prop:=fun e w'=>∃v hs',e= .returned v/\N v hs'/\Mem hs' w'
def ins:Nat->List Value->ee
 |_,[]=>[]
 |i,v::vs=>(i,v)::ins (i+1) vs
omit [au] in
theorem oG(vs:List Value):∀(i t:Nat) (v:Value),look (ins i vs) t=some v->∃j,t=i+j/\vs[j]? =some v:=by
 induction vs with
 |nil=>intro i t v h;simp[ins,look]at h
 |cons u vs ih=>
  intro i t v h
  simp only[ins]at h
  rw[eN]at h
  by_cases e:i=t
  . rw[if_pos e]at h;exact⟨0,by omega,by simpa using h⟩
  . rw[if_neg e]at h
    obtain⟨j,rfl,hj⟩:=ih _ _ _ h
    exact⟨j+1,by omega,by simpa using hj⟩
theorem aA.enter{P:Program}{f:Nat}{fn:Func}{c:Code}{vs:List Value}{N:Value->List Chunk->Prop}(n:Nat)(hf:P.funcs[f]? =some fn)(hb:fn.body=some c)(hn:fn.ntmps=n)
 (hlen:Nat.ble vs.length n=true)(h:TT ⟨P,fn,n,Post N⟩ c .fin (ins 0 vs) hs):aA P f vs hs N:=by
 intro w hm
 have hlen':=Nat.le_of_ble_eq_true hlen
 refine calls_of_wp hf hb (h _ w ?_ hm)
 refine⟨by simp[hn];omega,rfl,?_⟩
 intro t v hl
 obtain⟨j,rfl,hj⟩:=oG vs 0 t v hl
 have hjl:j<vs.length:=(List.getElem?_eq_some_iff.1 hj).1
 rw[Nat.zero_add,Array.getD_eq_getD_getElem?,Array.getElem?_append_left (by simpa using hjl)]
 simp[hj]
theorem OT.call{x:Operand}{f:Nat}{xs:Array Operand}{tys:Array Nat}{vs:List Value}{N:Value->List Chunk->Prop}(hc:∀args w,(callFunc f args).run X.P w= .ok (.enter f args) w)
 (hg:dX ops R gd=some true)(hx:ev R x=some (.func (.func f) #[] #[]))(hxs:ng R xs.toList=some vs)(hdn:Nat.ble (d+1) X.n=true)(hF:aA X.P f vs hs N)
 (h:∀v hs',N v hs'->OT X ops l k ((d,v)::R) hs'):OT X ops (⟨some d,.call ⟨.value x,xs,tys⟩,ty',pos,after,gd⟩::l) k R hs:=by
 intro a w ha hm
 simp only[wpList]
 rw[fP (o:=⟨some d,.call ⟨.value x,xs,tys⟩,ty',pos,after,gd⟩) ha hg,if_pos rfl]
 refine Or.inl ?_
 unfold Oper.wp
 have he:(execOp a.eval ⟨some d,.call ⟨.value x,xs,tys⟩,ty',pos,after,gd⟩).run X.P w= .ok (.enter f ⟨vs⟩) w:=by
  simp only[execOp,resolve,ha.ev hx,Deferred.ofValue]
  have e:xs.map a.eval=⟨vs⟩:=by
   have:=ha.ng hxs
   apply Array.ext'
   simpa using this
  rw[e]
  simp[invoke,hc]
 rw[he,Oper.upon_enter]
 refine(hF w hm).mono ?_
 rintro e w' ⟨v,hs',rfl,hN,hM⟩
 exact h v hs' hN _ _ (ha.put hdn v) hM
inductive zm(P:Program)(R:ee)(hs:List Chunk):List ResultVar->List Value->Prop
 |nil:zm P R hs [] []
 |tmp {t:Nat} {v:Value} {rs:List ResultVar} {vs:List Value}:look R t=some v->zm P R hs rs vs->zm P R hs (.tmp t::rs) (v::vs)
 |cell {x t:Nat} {ad:Addr} {v:Value} {rs:List ResultVar} {vs:List Value}:look R x=some (.pointer (some ad))->Ld P hs t ad v->zm P R hs rs vs->zm P R hs (.cell x t::rs) (v::vs)
def one:List Value->Value
 |[v]=>v
 |vs=> .tuple ⟨vs⟩
theorem zm.mapM{P:Program}{w:World}(hm:Mem hs w){rs:List ResultVar}{vs:List Value}(h:zm P R hs rs vs){g:ResultVar->Sem Value}
 (ht:∀t v,look R t=some v->(g (.tmp t)).run P w= .ok v w)(hc:∀x t ad v,look R x=some (.pointer (some ad))->(loadVar t ad).run P w= .ok v w->(g (.cell x t)).run P w= .ok v w):
 (rs.mapM g).run P w= .ok vs w:=by
 induction h with
 |nil=>rfl
 |tmp hl _ ih=>
  rw[List.mapM_cons,Sem.run_bind,ht _ _ hl]
  show Sem.run P (_>>=_) w=_
  rw[Sem.run_bind,ih]
  rfl
 |cell hl hd _ ih=>
  rw[List.mapM_cons,Sem.run_bind,hc _ _ _ _ hl (hd w hm)]
  show Sem.run P (_>>=_) w=_
  rw[Sem.run_bind,ih]
  rfl
theorem zm.run{P:Program}{n:Nat}{a:Act}{w:World}(ha:Fits n R a)(hm:Mem hs w){rs:List ResultVar}{vs:List Value}(h:zm P R hs rs vs):
 ∀{fn:Func},fn.results.toList=rs->(results fn a.tmps).run P w= .ok (one vs) w:=by
 intro fn hfn
 unfold results
 rw[Array.mapM_eq_mapM_toList,hfn]
 have key:=h.mapM (w:=w) hm (g:=fun
  | .tmp t=>pure (a.tmps.getD t undef)
  | .cell b t=>do loadVar t (<-asAddr (a.tmps.getD b undef))) (fun t v hl=>by
    show Result.ok _ w=_
    rw[ha.jX t v hl]) (fun x t ad v hl hr=>by
    show Sem.run P (asAddr (a.tmps.getD x undef)>>=_) w=_
    rw[ha.jX x _ hl]
    exact hr)
 have hmap:∀(m:Sem (List Value)),m.run P w= .ok vs w->Sem.run P (List.toArray<$>m) w= .ok ⟨vs⟩ w:=by
  intro m h1
  show Sem.run P (m>>=fun x=>pure x.toArray) w=_
  rw[Sem.run_bind,h1]
  rfl
 rw[Sem.run_bind]
 refine(congrArg (fun r=>Result.andThen r _) (hmap _ key)).trans ?_
 show Result.ok _ w=_
 congr 1
 cases vs with
 |nil=>rfl
 |cons v vs=>
  cases vs with
  |nil=>rfl
  |cons u vs=>simp[one]
theorem RT.of{P:Program}{fn:Func}{n:Nat}{N:Value->List Chunk->Prop}{rs:List ResultVar}(vs:List Value)(hs':List Chunk)(hfn:fn.results.toList=rs)(h:zm P R hs rs vs)
 (hsel:bp hs hs')(hN:N (one vs) hs'):RT ⟨P,fn,n,Post N⟩ R hs:=
 fun _ _ ha hm=>⟨ha.defers,one vs,h.run ha hm hfn,one vs,hs',rfl,hN,hm.kf hsel⟩
theorem KT.of{P:Program}{fn:Func}{n:Nat}{N:Value->List Chunk->Prop}{rs:List ResultVar}(vs:List Value)(hs':List Chunk)(hfn:fn.results.toList=rs)(h:zm P R hs rs vs)
 (hsel:bp hs hs')(hN:N (one vs) hs'):KT ⟨P,fn,n,Post N⟩ .fin R hs:=
 fun _ _ ha hm=>⟨ha.defers,one vs,h.run ha hm hfn,one vs,hs',rfl,hN,hm.kf hsel⟩
end
end Go.Sx
end
section
namespace Go.Sx
open Go
section
variable{α:Type}{enc:α->List Value}{sz e:Nat}{hs:List Chunk}
def Row(enc:α->List Value)(sz:Nat)(hs:List Chunk)(v:Value)(xs:List α):Prop:=
 (∀x∈xs,(enc x).length=sz)/\(((∃a,v= .slice a 0 0)/\xs=[])\/
  ∃b o cap cs t fr,v= .slice (some ⟨b,o,none⟩) xs.length cap/\Has hs b (blk cs t fr)/\xs.length<=cap/\(cs.drop o).take (xs.length*sz)=xs.flatMap enc)
def Own(enc:α->List Value)(sz e:Nat)(v:Value)(xs:List α)(H:Chunk):Prop:=
 (∀x∈xs,(enc x).length=sz)/\((v= .slice none 0 0/\xs=[]/\H=[])\/
  ∃b cap pre sp fr,v= .slice (some ⟨b,pre.length,none⟩) xs.length cap/\H=[(b,blk (pre++xs.flatMap enc++sp) e fr)]/\xs.length<=cap/\(cap-xs.length)*sz<=sp.length/\
   fy (pre++xs.flatMap enc++sp) fr)
def El(enc:α->List Value)(sz:Nat)(hs:List Chunk)(x:α)(ad:Addr):Prop:=
 (enc x).length=sz/\∃b o cs t fr,ad=⟨b,o,none⟩/\Has hs b (blk cs t fr)/\(cs.drop o).take sz=enc x
theorem aH{xs:List α}(h:∀x∈xs,(enc x).length=sz):(xs.flatMap enc).length=xs.length*sz:=by
 induction xs with
 |nil=>simp
 |cons x xs ih=>
  rw[List.flatMap_cons,List.length_append,ih (fun y hy=>h y (by simp[hy])),h x (by simp),List.length_cons,Nat.succ_mul,Nat.add_comm]
theorem Row.EM(a:Option Addr):Row enc sz hs (.slice a 0 0) []:=⟨by simp,.inl ⟨⟨a,rfl⟩,rfl⟩⟩
theorem Row.nil:Row enc sz hs (.slice none 0 0) []:= .EM none
theorem Own.nil:Own enc sz e (.slice none 0 0) [] []:=⟨by simp,.inl ⟨rfl,rfl,rfl⟩⟩
theorem Row.mono{hs':List Chunk}{v:Value}{xs:List α}(h:Row enc sz hs v xs)(hh:∀b o,Has hs b o->Has hs' b o):Row enc sz hs' v xs:=by
 obtain⟨h1,h2⟩:=h
 refine⟨h1,h2.imp id ?_⟩
 rintro⟨b,o,cap,cs,t,fr,hv,hb,hc,hr⟩
 exact⟨b,o,cap,cs,t,fr,hv,hh _ _ hb,hc,hr⟩
theorem Row.there{A:Chunk}{v:Value}{xs:List α}(h:Row enc sz hs v xs):Row enc sz (A::hs) v xs:=h.mono fun _ _=> .there
theorem Row.pull{A:Chunk}{r:List Chunk}{v:Value}{xs:List α}(h:Row enc sz hs v xs)(hp:aR hs A r):Row enc sz (A::r) v xs:=h.mono fun _ _=> .pull hp
theorem El.mono{hs':List Chunk}{x:α}{ad:Addr}(h:El enc sz hs x ad)(hh:∀b o,Has hs b o->Has hs' b o):El enc sz hs' x ad:=by
 obtain⟨h1,b,o,cs,t,fr,ha,hb,hr⟩:=h
 exact⟨h1,b,o,cs,t,fr,ha,hh _ _ hb,hr⟩
theorem El.there{A:Chunk}{x:α}{ad:Addr}(h:El enc sz hs x ad):El enc sz (A::hs) x ad:=h.mono fun _ _=> .there
theorem Own.row{v:Value}{xs:List α}{H:Chunk}(h:Own enc sz e v xs H):Row enc sz (H::hs) v xs:=by
 obtain⟨h1,h2⟩:=h
 refine⟨h1,?_⟩
 rcases h2 with⟨hv,hx,_⟩|⟨b,cap,pre,sp,fr,hv,hH,hc,_,_⟩
 . exact .inl ⟨⟨_,hv⟩,hx⟩
 . refine .inr ⟨b,pre.length,cap,_,e,fr,hv,by rw[hH];exact .one,hc,?_⟩
   rw[List.append_assoc,List.drop_left,List.take_append_of_le_length (by rw[aH h1];omega),<-aH h1,List.take_length]
theorem Row.j7{v:Value}{xs:List α}(h:Row enc sz hs v xs):∀x∈xs,(enc x).length=sz:=h.1
theorem Own.j7{v:Value}{xs:List α}{H:Chunk}(h:Own enc sz e v xs H):∀x∈xs,(enc x).length=sz:=h.1
theorem Row.len{v:Value}{xs:List α}(h:Row enc sz hs v xs):∃a c,v= .slice a xs.length c:=by
 rcases h.2 with⟨⟨_,rfl⟩,rfl⟩|⟨b,o,cap,cs,t,fr,rfl,_⟩
 . exact⟨_,_,rfl⟩
 . exact⟨_,_,rfl⟩
theorem d_{xs:List α}(h:∀x∈xs,(enc x).length=sz)(l:Nat):(xs.flatMap enc).drop (l*sz)=(xs.drop l).flatMap enc:=by
 induction xs generalizing l with
 |nil=>simp
 |cons x xs ih=>
  cases l with
  |zero=>simp
  |succ l=>
   rw[List.flatMap_cons,List.drop_append,h x (by simp),List.drop_eq_nil_of_le (by rw[h x (by simp),Nat.succ_mul];omega)]
   rw[Nat.succ_mul,Nat.add_sub_cancel,List.nil_append,ih (fun y hy=>h y (by simp[hy]))]
   rfl
theorem eS{xs:List α}(h:∀x∈xs,(enc x).length=sz)(l:Nat):(xs.flatMap enc).take (l*sz)=(xs.take l).flatMap enc:=by
 induction xs generalizing l with
 |nil=>simp
 |cons x xs ih=>
  cases l with
  |zero=>simp
  |succ l=>
   rw[List.flatMap_cons,List.take_append,h x (by simp),List.take_of_length_le (by rw[h x (by simp),Nat.succ_mul];omega)]
   rw[Nat.succ_mul,Nat.add_sub_cancel,ih (fun y hy=>h y (by simp[hy]))]
   rfl
theorem Row.el{v:Value}{xs:List α}(h:Row enc sz hs v xs){i:Nat}{x:α}(hi:xs[i]? =some x):
 ∃b o cap,v= .slice (some ⟨b,o,none⟩) xs.length cap/\El enc sz hs x ⟨b,o+i*sz,none⟩:=by
 have hil:i<xs.length:=(List.getElem?_eq_some_iff.1 hi).1
 have hx:x∈xs:=List.mem_of_getElem? hi
 rcases h.2 with⟨_,rfl⟩|⟨b,o,cap,cs,t,fr,hv,hb,hc,hr⟩
 . simp at hi
 . refine⟨b,o,cap,hv,h.1 x hx,b,o+i*sz,cs,t,fr,rfl,hb,?_⟩
   have e1:((cs.drop o).take (xs.length*sz)).drop (i*sz)=(xs.drop i).flatMap enc:=by rw[hr,d_ h.1]
   have e2:xs.drop i=x::xs.drop (i+1):=by
    have hx':xs[i]=x:=by rw[List.getElem?_eq_getElem hil]at hi;exact Option.some.inj hi
    rw[<-hx'];exact List.drop_eq_getElem_cons hil
   rw[e2,List.flatMap_cons]at e1
   have e3:(((cs.drop o).take (xs.length*sz)).drop (i*sz)).take sz=enc x:=by
    rw[e1,List.take_append_of_le_length (by rw[h.1 x hx];omega),<-h.1 x hx,List.take_length]
   rw[<-e3,List.drop_take,List.take_take,List.drop_drop]
   have:sz<=xs.length*sz-i*sz:=by
    rw[<-Nat.sub_mul]
    exact Nat.le_mul_of_pos_left _ (by omega)
   rw[Nat.min_eq_left this]
variable[au]
theorem El.bL{P:Program}{T:aE}(hT:T.ok P){x:α}{ad:Addr}(h:El enc sz hs x ad){t:Nat}{d:TypeDesc}(ht:ty T t=some (.one d)){v:Value}(hv:enc x=[v]):Ld P hs t ad v:=by
 obtain⟨h1,b,o,cs,t',fr,rfl,hb,hr⟩:=h
 rw[hv]at hr h1
 simp at h1
 subst h1
 refine Ld.one hT ht hb ?_
 have:((cs.drop o).take 1)[0]? =some v:=by rw[hr];rfl
 rw[List.getElem?_take]at this
 simpa using this
theorem El.cO{P:Program}{T:aE}(hT:T.ok P){x:α}{ad:Addr}(h:El enc sz hs x ad){t:Nat}{th:List (Nat×Nat)}(ht:ty T t=some (.struct th sz)):Ld P hs t ad (.agg ⟨enc x⟩):=by
 obtain⟨h1,b,o,cs,t',fr,rfl,hb,hr⟩:=h
 exact Ld.struct hT ht hb hr h1
theorem El.at{P:Program}{x:α}{ad:Addr}(h:El enc sz hs x ad):∃b o,ad=⟨b,o,none⟩/\∀{T:aE},T.ok P->∀{t:Nat} {d:TypeDesc},ty T t=some (.one d)->∀{j:Nat} {v:Value},(enc x)[j]? =some v->Ld P hs t ⟨b,o+j,none⟩ v:=by
 obtain⟨h1,b,o,cs,t',fr,rfl,hb,hr⟩:=h
 refine⟨b,o,rfl,fun hT t d ht j v hj=>Ld.one hT ht hb ?_⟩
 rw[<-hr,List.getElem?_take]at hj
 split at hj
 . rw[List.getElem?_drop]at hj;exact hj
 . cases hj
end
structure Elem(P:Program)(t e sz:Nat):Prop where
 BL:P.underlying t=some (.slice e)
 size:∀w,(sizeOf e).run P w= .ok sz w
 info:∃i,(∀w,(typeInfo e).run P w= .ok i w)/\0<i.bytes/\i.bytes<=4096
 zero:∃z,(∀w,(zeroValue e).run P w= .ok z w)/\z.cells.size=sz
section
variable[au]{X:Cx}{k:dx}{R:ee}{hs:List Chunk}{ops:Array Oper}{l:List Oper}{T:aE}{d ty':Nat}{pos:String}{after:Array Edge}{gd:Option (Nat×Bool)}
 {α:Type}{enc:α->List Value}{sz e t:Nat}
theorem OT.index{x ix:Operand}{v:Value}{xs:List α}{kk:IntKind}{i:Int}{y:α}(hT:T.ok X.P)(ht:ty T t=some (.slice e sz))(hg:dX ops R gd=some true)(hx:ev R x=some v)(zn:ev R ix=some (.int kk i))
 (hrow:Row enc sz hs v xs)(h0:0<=i)(hi:xs[i.toNat]? =some y)(hdn:Nat.ble (d+1) X.n=true)
 (h:∀ad,El enc sz hs y ad->OT X ops l k ((d,.pointer (some ad))::R) hs):OT X ops (⟨some d,.indexAddr t x ix,ty',pos,after,gd⟩::l) k R hs:=by
 obtain⟨b,o,cap,rfl,hel⟩:=hrow.el hi
 have hil:i.toNat<xs.length:=(List.getElem?_eq_some_iff.1 hi).1
 refine OT.value hg rfl hdn fun a w ha hm=>⟨.pointer (some ⟨b,o+i.toNat*sz,none⟩),hs,w,?_,hm,h _ hel⟩
 have hu:=(hT.ty ht).1
 have hsz:=(hT.ty ht).2.1 w
 simp only[execOp,ha.ev hx,ha.ev zn]
 have:(Instr.indexAt t (.slice (some ⟨b,o,none⟩) xs.length cap) (.int kk i)).run X.P w= .ok (.pointer (some ⟨b,o+i.toNat*sz,none⟩)) w:=by
  have hlt:i<(xs.length:Int):=by omega
  simp[Instr.indexAt,asIntOf,run_underlying hu,h0,hlt,hsz,bX]
 simp[this]
omit [au] in
theorem jP{P:Program}(hu:P.underlying t=some (.slice e))(hsz:∀w,(sizeOf e).run P w= .ok sz w)(a:Option Addr)(n cap:Nat)(lo hi:Option Value)(l h:Nat)
 (hlo:(lo=none/\l=0)\/∃kk,lo=some (.int kk l))(hhi:(hi=none/\h=n)\/∃kk,hi=some (.int kk h))(h1:l<=h)(h2:h<=cap)(w:World):
 (Instr.sliceAt t (.slice a n cap) lo hi none).run P w= .ok (.slice (if cap=l then a else a.map (·.add (l*sz))) (h-l) (cap-l)) w:=by
 rcases hlo with⟨rfl,rfl⟩|⟨k1,rfl⟩<;>rcases hhi with⟨rfl,rfl⟩|⟨k2,rfl⟩
 . simp[Instr.sliceAt,run_underlying hu,Instr.slice,Instr.sliceBounds,hsz w]
 . simp[Instr.sliceAt,run_underlying hu,Instr.slice,Instr.sliceBounds,hsz w,Instr.sliceBound,asIntOf,h2]
 . simp[Instr.sliceAt,run_underlying hu,Instr.slice,Instr.sliceBounds,hsz w,Instr.sliceBound,asIntOf,h1]
 . simp[Instr.sliceAt,run_underlying hu,Instr.slice,Instr.sliceBounds,hsz w,Instr.sliceBound,asIntOf,h1,h2]
def lV(R:ee):Option Operand->Option (Option Value)
 |none=>some none
 |some x=>match ev R x with
  |some v=>some (some v)
  |none=>none
omit [au] in
theorem Fits.lV{n:Nat}{a:Act}(ha:Fits n R a){x:Option Operand}{v:Option Value}(h:Sx.lV R x=some v):x.map a.eval=v:=by
 cases x with
 |none=>exact Option.some.inj h
 |some x=>
  simp only[Sx.lV]at h
  split at h
  . rename_i u hu
    rw[<-Option.some.inj h,Option.map_some,ha.ev hu]
  . cases h
def zK(x:Option Value)(dflt:Nat)(l:Nat):Prop:=(x=none/\l=dflt)\/∃kk,x=some (.int kk l)
theorem OT.slice{x:Operand}{lo hi:Option Operand}{v:Value}{vl vh:Option Value}{xs:List α}(L H:Nat)(hT:T.ok X.P)(ht:ty T t=some (.slice e sz))(hg:dX ops R gd=some true)(hx:ev R x=some v)
 (hlo:lV R lo=some vl)(hhi:lV R hi=some vh)(hrow:Row enc sz hs v xs)(hL:zK vl 0 L)(hH:zK vh xs.length H)(h1:L<=H)(h2:H<=xs.length)(hdn:Nat.ble (d+1) X.n=true)
 (h:∀v',Row enc sz hs v' ((xs.take H).drop L)->OT X ops l k ((d,v')::R) hs):OT X ops (⟨some d,.slice t x lo hi none,ty',pos,after,gd⟩::l) k R hs:=by
 have hu:=(hT.ty ht).1
 have hsz:=(hT.ty ht).2.1
 have hlen:((xs.take H).drop L).length=H-L:=by simp;omega
 have hmem:∀y∈(xs.take H).drop L,(enc y).length=sz:=fun y hy=>hrow.1 y (List.mem_of_mem_take (List.mem_of_mem_drop hy))
 rcases hrow.2 with⟨⟨a0,rfl⟩,rfl⟩|⟨b,o,cap,cs,t',fr,rfl,hb,hc,hr⟩
 . simp at h2
   subst h2
   obtain rfl:L=0:=by omega
   refine OT.value hg rfl hdn fun a w ha hm=>⟨.slice a0 0 0,hs,w,?_,hm,h _ (by simpa using Row.EM a0)⟩
   simp only[execOp,ha.ev hx,ha.lV hlo,ha.lV hhi,Option.map_some]
   have:=jP hu hsz a0 0 0 vl vh 0 0 hL hH (Nat.le_refl _) (Nat.le_refl _) w
   simp only[if_pos rfl]at this
   simp[this]
 . refine OT.value hg rfl hdn fun a w ha hm=>⟨_,hs,w,?_,hm,h (.slice (if cap=L then some ⟨b,o,none⟩else some ⟨b,o+L*sz,none⟩) (H-L) (cap-L)) ⟨hmem,.inr ?_⟩⟩
   . simp only[execOp,ha.ev hx,ha.lV hlo,ha.lV hhi,Option.map_none]
     have:=jP hu hsz (some ⟨b,o,none⟩) xs.length cap vl vh L H hL hH h1 (by omega) w
     simp only[Option.map_some,bX]at this
     simp[this]
   . by_cases ki:cap=L
     . have e1:H-L=0:=by omega
       have e0:(xs.take H).drop L=[]:=List.eq_nil_of_length_eq_zero (by rw[hlen,e1])
       refine⟨b,o,cap-L,cs,t',fr,by rw[if_pos ki,e0,e1];rfl,hb,by rw[e0];simp,by rw[e0];simp⟩
     . refine⟨b,o+L*sz,cap-L,cs,t',fr,by rw[if_neg ki,hlen],hb,by rw[hlen];omega,?_⟩
       rw[hlen,<-d_ (fun y hy=>hrow.1 y (List.mem_of_mem_take hy)),<-eS hrow.1,<-hr,List.take_take,Nat.min_eq_left (Nat.mul_le_mul_right _ h2),List.drop_take,List.drop_drop,Nat.sub_mul]
omit [au] in
theorem Row.rT{b o cap:Nat}{cs:List Value}{t':Nat}{fr:Nat×Nat}{xs:List α}{n:Nat}(hb:Has hs b (blk cs t' fr))(eZ:∀x∈xs,(enc x).length=sz)(hn:xs.length=n)(hc:n<=cap)
 (hr:(cs.drop o).take (n*sz)=xs.flatMap enc):Row enc sz hs (.slice (some ⟨b,o,none⟩) n cap) xs:=by
 subst hn
 exact⟨eZ,.inr ⟨b,o,cap,cs,t',fr,rfl,hb,hc,hr⟩⟩
theorem OT.CZ{x:Operand}{lo hi:Option Operand}{vl vh:Option Value}{n b o:Nat}(L H:Nat)(hT:T.ok X.P)(ht:ty T t=some (.arr n e sz))(hg:dX ops R gd=some true)(hx:ev R x=some (.pointer (some ⟨b,o,none⟩)))
 (hlo:lV R lo=some vl)(hhi:lV R hi=some vh)(hL:zK vl 0 L)(hH:zK vh n H)(h1:L<=H)(h2:H<=n)(h3:L<n)(hdn:Nat.ble (d+1) X.n=true)
 (h:OT X ops l k ((d,.slice (some ⟨b,o+L*sz,none⟩) (H-L) (n-L))::R) hs):OT X ops (⟨some d,.slice t x lo hi none,ty',pos,after,gd⟩::l) k R hs:=by
 have hu:=(hT.ty ht).1
 have hsz:=(hT.ty ht).2.1
 refine OT.value hg rfl hdn fun a w ha hm=>⟨_,hs,w,?_,hm,h⟩
 simp only[execOp,ha.ev hx,ha.lV hlo,ha.lV hhi,Option.map_none]
 have hne:¬n=L:=by omega
 rcases hL with⟨rfl,rfl⟩|⟨k1,rfl⟩<;>rcases hH with⟨rfl,rfl⟩|⟨k2,rfl⟩
 . simp[Instr.sliceAt,run_underlying hu,Instr.sureAddr,Instr.sliceBounds,hsz w,bX]
 . simp[Instr.sliceAt,run_underlying hu,Instr.sureAddr,Instr.sliceBounds,hsz w,Instr.sliceBound,asIntOf,h2,bX]
 . simp[Instr.sliceAt,run_underlying hu,Instr.sureAddr,Instr.sliceBounds,hsz w,Instr.sliceBound,asIntOf,h1,hne,bX]
 . simp[Instr.sliceAt,run_underlying hu,Instr.sureAddr,Instr.sliceBounds,hsz w,Instr.sliceBound,asIntOf,h1,h2,hne,bX]
end
end Go.Sx
end
section
namespace Go.Sx
open Go
variable[au]
omit [au] in
theorem C0(m:Nat):∀r c:Nat,c<m->Builtin.growBy m r c<=2*m+192:=by
 intro r
 induction r with
 |zero=>intro c h;simp only[Builtin.growBy];omega
 |succ r ih=>
  intro c h
  simp only[Builtin.growBy]
  split
  . omega
  . by_cases h2:c+(c+768)/4<m
    . exact ih _ h2
    . cases r with
      |zero=>simp only[Builtin.growBy];omega
      |succ r=>simp only[Builtin.growBy];rw[if_pos (by omega)];omega
omit [au] in
theorem sG{m c:Nat}(h:c<m):Builtin.nextslicecap m c<=2*m+512:=by
 unfold Builtin.nextslicecap
 split
 . omega
 . split
   . omega
   . have:=C0 m 4 c h;omega
section
variable{X:Cx}{k:dx}{R:ee}{hs:List Chunk}{ops:Array Oper}{l:List Oper}{T:aE}{d ty':Nat}{pos:String}{after:Array Edge}{gd:Option (Nat×Bool)}
 {α:Type}{enc:α->List Value}{sz e t:Nat}
theorem Row.first{P:Program}{v:Value}{ys:List α}(h:Row enc sz hs v ys){w:World}(hm:Mem hs w):(Builtin.firstCells sz ys.length v).run P w= .ok ⟨ys.flatMap enc⟩ w:=by
 rcases h.2 with⟨⟨a,rfl⟩,rfl⟩|⟨b,o,cap,cs,t',fr,rfl,hb,hc,hr⟩
 . cases a<;>simp[Builtin.firstCells,loadCells,loadCellsFrom]
 . exact hm.loadCells hb hr (aH h.1)
theorem lI{P:Program}(he:Elem P t e sz){v:Value}{xs:List α}{H:Chunk}{r:List Chunk}(hown:Own enc sz e v xs H){w:World}(hm:Mem (H::r) w)(ys:List α)
 (hys:∀y∈ys,(enc y).length=sz)(rN:dy (ys.flatMap enc)=true)(hb:xs.length+ys.length<=4294967296){src:Sem (Array Value)}{xx:Bool}
 (hsrc:∀w',Mem (H::r) w'->src.run P w'= .ok ⟨ys.flatMap enc⟩ w'){a:Option Addr}{n cap:Nat}(hv:v= .slice a n cap)(share:Sem Bool):
 ∃v' H' w',(if n+ys.length<=cap then(do
  let new<-src
  if let some a:=a then storeCells (a.add (n*sz)) new.toList
  pure (Value.slice a (n+ys.length) cap):Sem Value)
  else do
   if((n+ys.length:Nat):Int)>IntKind.i64.max/\(xx\/(<-typeInfo e).bytes=0)then runtimePanic (.error "growslice: len out of range")
   if Builtin.nextslicecap (n+ys.length) cap*(<-typeInfo e).bytes>2^48 then(if xx then runtimePanic (.error "growslice: len out of range")else do
    if !(<-share)then mark .noRoom
    unsupported (.resourceLimit "append: a slice or a string whose bytes no memory bears"))
   let iH<-choose (.appendCap (n+ys.length) cap e)
   askRoom (iH*(<-typeInfo e).bytes)
   let old<-Builtin.firstCells sz n v
   let new<-src
   let rest:=Builtin.zeroCells (<-zeroValue e).cells (iH-(n+ys.length))
   pure (.slice (some (<-newRow e (old++new++rest))) (n+ys.length) iH)).run P w= .ok v' w'/\Own enc sz e v' (xs++ys) H'/\Mem (H'::r) w'/\(n+ys.length<=cap->v'= .slice a (n+ys.length) cap):=by
 obtain⟨ti,BM,tj,k3⟩:=he.info
 obtain⟨z,hz,hzs⟩:=he.zero
 have hlen:v= .slice a n cap->n=xs.length:=by
  intro h
  obtain⟨a',c',h'⟩:=(hown.row (hs:=r)).len
  rw[h']at h
  injection h with _ h _
  exact h.symm
 obtain rfl:=hlen hv
 have hall:∀y∈xs++ys,(enc y).length=sz:=by
  intro y hy
  rcases List.mem_append.1 hy with hy|hy
  . exact hown.1 y hy
  . exact hys y hy
 by_cases hroom:xs.length+ys.length<=cap
 . rw[if_pos hroom]
   rcases hown.2 with⟨hn,hx,hH⟩|⟨b,cap',pre,sp,fr,D7,hH,hc,hsp,qV⟩
   . rw[hn]at hv
     injection hv with e1 e2 e3
     subst e1;subst e3
     have hy0:ys=[]:=List.eq_nil_of_length_eq_zero (by omega)
     subst hy0;subst hx
     refine⟨.slice none 0 0,[],w,?_,by simpa using Own.nil,by rw[hH]at hm;exact hm,fun _=>rfl⟩
     rw[Sem.run_bind,hsrc w hm]
     rfl
   . rw[D7]at hv
     injection hv with e1 e2 e3
     subst e1;subst e3
     subst hH
     have nR:(ys.flatMap enc).length=ys.length*sz:=aH hys
     have CR:(xs.flatMap enc).length=xs.length*sz:=aH hown.1
     have hfit:ys.length*sz<=sp.length:=Nat.le_trans (Nat.mul_le_mul_right _ (by omega)) hsp
     obtain⟨w',hr,hm'⟩:=hm.storeCells (P:=P) (o:=pre.length+xs.length*sz) (ys.flatMap enc) 0 (by simp[nR,CR];omega) rN qV
     have HL:splice (pre++xs.flatMap enc++sp) (pre.length+xs.length*sz+0) (ys.flatMap enc)=pre++(xs++ys).flatMap enc++sp.drop (ys.length*sz):=by
      simp only[splice,Nat.add_zero]
      rw[nR,<-CR,<-List.length_append,List.take_left,<-List.drop_drop,List.drop_left]
      simp
     rw[HL]at hm'
     refine⟨.slice (some ⟨b,pre.length,none⟩) (xs.length+ys.length) cap',_,w',?_,⟨hall,.inr ⟨b,cap',pre,sp.drop (ys.length*sz),fr,by simp,rfl,by simpa using hroom,?_,?_⟩⟩,hm',fun _=>rfl⟩
     . rw[Sem.run_bind,hsrc w hm]
       simp only[Result.andThen_ok,bX]
       rw[Sem.run_bind,hr]
       rfl
     . simp only[List.length_append,List.length_drop]
       rw[show cap'-(xs.length+ys.length)=(cap'-xs.length)-ys.length from by omega,Nat.sub_mul]
       omega
     . refine qV.imp id (fun h=> ?_)
       simp only[List.length_append,CR,List.length_drop,List.flatMap_append,nR]at h⊢
       omega
 . rw[if_neg hroom]
   have hc:cap<xs.length+ys.length:=by omega
   have Vb:=sG hc
   have l6:¬(((xs.length+ys.length:Nat):Int)>IntKind.i64.max):=by
    have:IntKind.i64.max=9223372036854775807:=by decide
    rw[this];omega
   have h48:¬(Builtin.nextslicecap (xs.length+ys.length) cap*ti.bytes>2^48):=by
    have h1:Builtin.nextslicecap (xs.length+ys.length) cap*ti.bytes<=8589935104*4096:=Nat.mul_le_mul (by omega) k3
    have:(2:Nat)^48=281474976710656:=by decide
    omega
   have hq:(Question.appendCap (xs.length+ys.length) cap e).forced=false:=rfl
   generalize hnc:(Question.appendCap (xs.length+ys.length) cap e).cut (w.tape w.drawn (.appendCap (xs.length+ys.length) cap e))=nc
   have EN:xs.length+ys.length<=nc:=by rw[<-hnc];simp only[Question.cut];omega
   have pE:Mem (H::r) {w with drawn:=w.drawn+1}:=hm.ue
   have vK:=hown.row (hs:=r)
   have hf:=vK.first (P:=P) pE
   have kX:=hsrc _ pE
   generalize xy:Builtin.zeroCells z.cells (nc-(xs.length+ys.length))=rest
   have xo:rest.toList.length=(nc-(xs.length+ys.length))*sz:=by
    rw[<-xy];simp[Builtin.zeroCells,hzs]
   refine⟨.slice (some ⟨w.heap.size,0,none⟩) (xs.length+ys.length) nc,[(w.heap.size,blk ([]++(xs++ys).flatMap enc++rest.toList) e (0,0))],
    ({w with drawn:=w.drawn+1}:World).alloc (.cells (⟨xs.flatMap enc⟩++⟨ys.flatMap enc⟩++rest) e),?_,⟨hall,.inr ⟨w.heap.size,nc,[],rest.toList,(0,0),by simp,rfl,by simpa using EN,?_,.inl (Nat.le_refl _)⟩⟩,?_,fun h=>(hroom h).elim⟩
   . have lB:∀n (w:World),(askRoom n).run P w= .ok () w:=by intro n w;unfold askRoom;split<;>rfl
     simp only[Sem.run_bind,BM,Result.andThen_ok,l6,h48,false_and,if_false]
     simp only[Sem.run_pure,run_choose_drew,hq,hnc]
     simp only[Bool.false_eq_true,if_false,Result.andThen_ok,lB]
     have P3:w.drew={w with drawn:=w.drawn+1}:=rfl
     rw[P3,hf]
     simp only[Result.andThen_ok,kX,hz,xy]
     simp only[newRow,Sem.run_bind,run_newObj_alloc,Result.andThen_ok,Sem.run_pure]
   . rw[xo];simp
   . have:=(hm.ue).drop.alloc (.cells (⟨xs.flatMap enc⟩++⟨ys.flatMap enc⟩++rest) e)
     have e1:(Obj.cells (⟨xs.flatMap enc⟩++⟨ys.flatMap enc⟩++rest) e:Obj)=blk ([]++(xs++ys).flatMap enc++rest.toList) e (0,0):=by
      simp only[blk]
      congr 1
      apply Array.ext'
      simp
     rw[e1]at this⊢
     exact this
theorem sH{P:Program}(he:Elem P t e sz){t2:Nat}{u2:TypeDesc}(s9:P.underlying t2=some u2)(S4:∀kk,u2≠.int kk){v u:Value}{xs ys:List α}{H:Chunk}{r:List Chunk}
 (hown:Own enc sz e v xs H)(hrow:Row enc sz (H::r) u ys)(rN:dy (ys.flatMap enc)=true)(hb:xs.length+ys.length<=4294967296){w:World}(hm:Mem (H::r) w)(ty:Nat):
 ∃v' H' w',(Builtin.append_ #[t,t2] ty #[v,u]).run P w= .ok v' w'/\Own enc sz e v' (xs++ys) H'/\Mem (H'::r) w'/\(∀a c,v= .slice a xs.length c->xs.length+ys.length<=c->v'= .slice a (xs.length+ys.length) c):=by
 obtain⟨a,cap,hv⟩:=(hown.row (hs:=r)).len
 obtain⟨a2,c2,hu⟩:=hrow.len
 obtain⟨v',H',w',hr,ho,hm',Vc⟩:=lI (P:=P) he hown hm ys hrow.1 rN hb (src:=Builtin.firstCells sz ys.length u) (xx:=false) (fun w' MJ=>hrow.first MJ) hv (Builtin.mayShare sz xs.length ys.length a u)
 refine⟨v',H',w',?_,ho,hm',fun a1 c1 h1 h2=>by rw[hv]at h1;injection h1 with e1 _ e3;subst e1;subst e3;exact Vc h2⟩
 rw[<-hr]
 have h2:Sem.run P (Builtin.lenOf u) w= .ok ys.length w:=by rw[hu];rfl
 have h3:Sem.run P (Builtin.append_ #[t,t2] ty #[v,u]) w=Sem.run P (do
  let n<-Builtin.lenOf u
  let need:=xs.length+n
  if need<=cap then do
   let new<-Builtin.firstCells sz n u
   if let some a:=a then storeCells (a.add (xs.length*sz)) new.toList
   pure (Value.slice a need cap)
  else do
   if(need:Int)>IntKind.i64.max/\((false:Bool)\/(<-typeInfo e).bytes=0)then runtimePanic (.error "growslice: len out of range")
   if Builtin.nextslicecap need cap*(<-typeInfo e).bytes>2^48 then(if(false:Bool)then runtimePanic (.error "growslice: len out of range")else do
    if !(<-Builtin.mayShare sz xs.length n a u)then mark .noRoom
    unsupported (.resourceLimit "append: a slice or a string whose bytes no memory bears"))
   let iH<-choose (.appendCap need cap e)
   askRoom (iH*(<-typeInfo e).bytes)
   let old<-Builtin.firstCells sz xs.length v
   let new<-Builtin.firstCells sz n u
   let rest:=Builtin.zeroCells (<-zeroValue e).cells (iH-need)
   pure (.slice (some (<-newRow e (old++new++rest))) need iH):Sem Value) w:=by
  unfold Builtin.append_
  subst hv
  simp only[List.getElem?_toArray,List.getElem?_cons_zero,List.getElem?_cons_succ]
  rw[Sem.run_bind,run_underlying he.BL]
  simp only[Result.andThen_ok]
  rw[Sem.run_bind,he.size]
  simp only[Result.andThen_ok]
  rw[Sem.run_bind,run_underlying s9]
  cases u2
  case int kk=>exact(S4 kk rfl).elim
  all_goals rfl
 rw[h3,Sem.run_bind,h2]
 rfl
theorem nC{P:Program}{enc:UInt8->List Value}{sz:Nat}(eZ:∀c,enc c=[.int .u8 c.toNat])(he:Elem P t e sz)(hsz:sz=1){t2:Nat}(s9:P.underlying t2=some .string){v:Value}{xs:List UInt8}{s:ByteArray}{H:Chunk}{r:List Chunk}
 (hown:Own enc sz e v xs H)(hb:xs.length+s.data.toList.length<=4294967296){w:World}(hm:Mem (H::r) w)(ty:Nat):
 ∃v' H' w',(Builtin.append_ #[t,t2] ty #[v,.string s]).run P w= .ok v' w'/\Own enc sz e v' (xs++s.data.toList) H'/\Mem (H'::r) w':=by
 subst hsz
 obtain⟨a,cap,hv⟩:=(hown.row (hs:=r)).len
 have hsrc:∀w',Mem (H::r) w'->(Builtin.firstCells 1 s.data.toList.length (.string s)).run P w'= .ok ⟨s.data.toList.flatMap enc⟩ w':=by
  intro w' _
  show Result.ok _ w'=_
  congr 1
  apply Array.ext'
  have e1:(s.extract 0 s.data.toList.length)=s:=by
   have:s.data.toList.length=s.size:=Array.length_toList
   rw[this,ByteArray.extract_zero_size]
  rw[e1]
  simp only[Array.toList_map]
  have:enc=fun c=>[Value.int .u8 c.toNat]:=funext eZ
  rw[this]
  induction s.data.toList with
  |nil=>rfl
  |cons c l ih=>simp[ih]
 obtain⟨v',H',w',hr,ho,hm',_⟩:=lI (P:=P) he hown hm s.data.toList (fun c _=>by rw[eZ];rfl) (by
  have:enc=fun c=>[Value.int .u8 c.toNat]:=funext eZ
  rw[this]
  unfold dy
  induction s.data.toList with
  |nil=>rfl
  |cons c l ih=>simp[gU]) hb (src:=Builtin.firstCells 1 s.data.toList.length (.string s)) (xx:=false) hsrc hv (Builtin.mayShare 1 xs.length s.data.toList.length a (.string s))
 refine⟨v',H',w',?_,ho,hm'⟩
 rw[<-hr]
 have h2:Sem.run P (Builtin.lenOf (.string s)) w= .ok s.data.toList.length w:=by
  have:s.data.toList.length=s.size:=Array.length_toList
  rw[this];rfl
 have h3:Sem.run P (Builtin.append_ #[t,t2] ty #[v,.string s]) w=Sem.run P (do
  let n<-Builtin.lenOf (.string s)
  let need:=xs.length+n
  if need<=cap then do
   let new<-Builtin.firstCells 1 n (.string s)
   if let some a:=a then storeCells (a.add (xs.length*1)) new.toList
   pure (Value.slice a need cap)
  else do
   if(need:Int)>IntKind.i64.max/\((false:Bool)\/(<-typeInfo e).bytes=0)then runtimePanic (.error "growslice: len out of range")
   if Builtin.nextslicecap need cap*(<-typeInfo e).bytes>2^48 then(if(false:Bool)then runtimePanic (.error "growslice: len out of range")else do
    if !(<-Builtin.mayShare 1 xs.length n a (.string s))then mark .noRoom
    unsupported (.resourceLimit "append: a slice or a string whose bytes no memory bears"))
   let iH<-choose (.appendCap need cap e)
   askRoom (iH*(<-typeInfo e).bytes)
   let old<-Builtin.firstCells 1 xs.length v
   let new<-Builtin.firstCells 1 n (.string s)
   let rest:=Builtin.zeroCells (<-zeroValue e).cells (iH-need)
   pure (.slice (some (<-newRow e (old++new++rest))) need iH):Sem Value) w:=by
  unfold Builtin.append_
  subst hv
  simp only[List.getElem?_toArray,List.getElem?_cons_zero,List.getElem?_cons_succ]
  rw[Sem.run_bind,run_underlying he.BL]
  simp only[Result.andThen_ok]
  rw[Sem.run_bind,he.size]
  simp only[Result.andThen_ok]
  rw[Sem.run_bind,run_underlying s9]
  rfl
 rw[h3,Sem.run_bind,h2]
 rfl
omit [au] in
theorem tL(zv:Value)(m:Nat):(Builtin.zeroCells #[zv] m).toList=List.replicate m zv:=by
 apply List.ext_getElem
 . simp[Builtin.zeroCells]
 . intro i h1 h2
   simp[Builtin.zeroCells,Nat.mod_one]
omit [au] in
theorem ep{z0:α}{zv:Value}(h:enc z0=[zv])(m:Nat):(List.replicate m z0).flatMap enc=List.replicate m zv:=by
 induction m with
 |zero=>rfl
 |succ m ih=>rw[List.replicate_succ,List.flatMap_cons,ih,h];rfl
theorem ic{P:Program}(he:Elem P t e 1){z0:α}{zv:Value}(zo:∀w,(zeroValue e).run P w= .ok zv w)(GN:zv.cells= #[zv])(eZ:enc z0=[zv])(h1:gU zv=true){t2:Nat}{kk:IntKind}(s9:P.underlying t2=some (.int kk)){v:Value}{xs:List α}{m:Nat}{kv:IntKind}{H:Chunk}{r:List Chunk}
 (hown:Own enc 1 e v xs H)(hb:xs.length+m<=4294967296){w:World}(hm:Mem (H::r) w)(ty:Nat):
 ∃v' H' w',(Builtin.append_ #[t,t2] ty #[v,.int kv m]).run P w= .ok v' w'/\Own enc 1 e v' (xs++List.replicate m z0) H'/\Mem (H'::r) w':=by
 obtain⟨a,cap,hv⟩:=(hown.row (hs:=r)).len
 obtain⟨ti,BM,tj,k3⟩:=he.info
 have hsrc:∀w',Mem (H::r) w'->(if m*1=0 then pure #[]else do pure (Builtin.zeroCells (<-zeroValue e).cells m):Sem (Array Value)).run P w'= .ok ⟨(List.replicate m z0).flatMap enc⟩ w':=by
  intro w' _
  rw[ep eZ]
  split
  . rename_i h0
    have:m=0:=by omega
    subst this
    rfl
  . rw[Sem.run_bind,zo w']
    show Result.ok _ w'=_
    congr 1
    apply Array.ext'
    rw[GN,tL]
 obtain⟨v',H',w',hr,ho,hm',_⟩:=lI (P:=P) he hown hm (List.replicate m z0) (fun y hy=>by rw[List.eq_of_mem_replicate hy,eZ];rfl) (by
  rw[ep eZ]
  unfold dy
  rw[List.all_eq_true]
  intro x hx
  rw[List.eq_of_mem_replicate hx]
  exact h1) (by simpa using hb) (xx:=true) hsrc hv (Builtin.mayShare 1 xs.length m a (.int kv m))
 refine⟨v',H',w',?_,ho,hm'⟩
 have hwrap:IntKind.i64.wrap (m:Int)=(m:Int):=IntWalk.i64_in _ (by omega)
 have hneg:¬((m:Int)<0):=by omega
 have l6:¬((m:Int)*ti.bytes>2^48):=by
  have h1:m*ti.bytes<=4294967296*4096:=Nat.mul_le_mul (by omega) k3
  have:(2:Int)^48=281474976710656:=by decide
  rw[this]
  have h2:((m*ti.bytes:Nat):Int)<=17592186044416:=by omega
  rw[Int.natCast_mul]at h2
  omega
 unfold Builtin.append_
 subst hv
 simp only[List.getElem?_toArray,List.getElem?_cons_zero,List.getElem?_cons_succ]
 rw[Sem.run_bind,run_underlying he.BL]
 simp only[Result.andThen_ok]
 rw[Sem.run_bind,he.size]
 simp only[Result.andThen_ok]
 rw[Sem.run_bind,run_underlying s9]
 simp only[Result.andThen_ok,Sem.run_bind,Sem.run_pure,if_true,asInt,asIntOf,hwrap,hneg,if_false,BM,l6,Int.toNat_natCast,Bool.not_true,Bool.false_eq_true,List.length_replicate]at hr⊢
 exact hr
end
end Go.Sx
end
section
namespace Go.Sx
open Go
variable[au]
section
variable{X:Cx}{k:dx}{R:ee}{hs:List Chunk}{ops:Array Oper}{l:List Oper}{T:aE}{d ty':Nat}{pos:String}{after:Array Edge}{gd:Option (Nat×Bool)}
 {α:Type}{enc:α->List Value}{sz e t:Nat}
omit [au] in
theorem gE{a:Act}{x y:Operand}{v u:Value}(hx:a.eval x=v)(hy:a.eval y=u)(t t2:Nat){P:Program}{w w':World}{v':Value}(h:(Builtin.append_ #[t,t2] ty' #[v,u]).run P w= .ok v' w'):
 (execOp a.eval ⟨some d,.call ⟨.builtin .append,#[x,y],#[t,t2]⟩,ty',pos,after,gd⟩).run P w= .ok (.value v') w':=by
 simp[execOp,resolve,hx,hy,invoke,builtin,h]
theorem OT.append{x y:Operand}{t2 e2 P4:Nat}{v u:Value}{xs ys:List α}{H:Chunk}{r:List Chunk}(hT:T.ok X.P)(he:Elem X.P t e sz)(s9:ty T t2=some (.slice e2 P4))(hg:dX ops R gd=some true)
 (hx:ev R x=some v)(hy:ev R y=some u)(hp:aR hs H r)(hown:Own enc sz e v xs H)(hrow:Row enc sz hs u ys)(rN:dy (ys.flatMap enc)=true)(hb:xs.length+ys.length<=4294967296)(hdn:Nat.ble (d+1) X.n=true)
 (h:∀v' H',Own enc sz e v' (xs++ys) H'->OT X ops l k ((d,v')::R) (H'::r)):OT X ops (⟨some d,.call ⟨.builtin .append,#[x,y],#[t,t2]⟩,ty',pos,after,gd⟩::l) k R hs:=by
 refine OT.value hg rfl hdn fun a w ha hm=> ?_
 obtain⟨v',H',w',hr,ho,hm',_⟩:=sH he (hT.ty s9).1 (fun kk h=>by cases h) hown (hrow.pull hp) rN hb (hm.pull hp) ty'
 exact⟨v',_,w',gE (ha.ev hx) (ha.ev hy) t t2 hr,hm',h v' H' ho⟩
theorem OT.fI{x y:Operand}{t2 e2 P4:Nat}{a:Option Addr}{n c:Nat}{u:Value}{xs ys:List α}{H:Chunk}{r:List Chunk}(hT:T.ok X.P)(he:Elem X.P t e sz)(s9:ty T t2=some (.slice e2 P4))(hg:dX ops R gd=some true)
 (hx:ev R x=some (.slice a n c))(hy:ev R y=some u)(hp:aR hs H r)(hn:n=xs.length)(hown:Own enc sz e (.slice a n c) xs H)(hrow:Row enc sz hs u ys)(rN:dy (ys.flatMap enc)=true)(hb:xs.length+ys.length<=4294967296)(hroom:n+ys.length<=c)(hdn:Nat.ble (d+1) X.n=true)
 (h:∀H',Own enc sz e (.slice a (n+ys.length) c) (xs++ys) H'->OT X ops l k ((d,.slice a (n+ys.length) c)::R) (H'::r)):OT X ops (⟨some d,.call ⟨.builtin .append,#[x,y],#[t,t2]⟩,ty',pos,after,gd⟩::l) k R hs:=by
 subst hn
 refine OT.value hg rfl hdn fun ac w ha hm=> ?_
 obtain⟨v',H',w',hr,ho,hm',hv⟩:=sH he (hT.ty s9).1 (fun kk h=>by cases h) hown (hrow.pull hp) rN hb (hm.pull hp) ty'
 have hv:=hv a c rfl hroom
 subst hv
 exact⟨_,_,w',gE (ha.ev hx) (ha.ev hy) t t2 hr,hm',h H' ho⟩
theorem OT.nC{enc:UInt8->List Value}(eZ:∀c,enc c=[.int .u8 c.toNat]){x y:Operand}{t2:Nat}{v:Value}{s:ByteArray}{xs:List UInt8}{H:Chunk}{r:List Chunk}(hT:T.ok X.P)(he:Elem X.P t e 1)(s9:ty T t2=some (.one .string))(hg:dX ops R gd=some true)
 (hx:ev R x=some v)(hy:ev R y=some (.string s))(hp:aR hs H r)(hown:Own enc 1 e v xs H)(hb:xs.length+s.data.toList.length<=4294967296)(hdn:Nat.ble (d+1) X.n=true)
 (h:∀v' H',Own enc 1 e v' (xs++s.data.toList) H'->OT X ops l k ((d,v')::R) (H'::r)):OT X ops (⟨some d,.call ⟨.builtin .append,#[x,y],#[t,t2]⟩,ty',pos,after,gd⟩::l) k R hs:=by
 refine OT.value hg rfl hdn fun a w ha hm=> ?_
 obtain⟨v',H',w',hr,ho,hm'⟩:=Sx.nC eZ he rfl (hT.ty s9).1 hown hb (hm.pull hp) ty'
 exact⟨v',_,w',gE (ha.ev hx) (ha.ev hy) t t2 hr,hm',h v' H' ho⟩
theorem OT.ic{x y:Operand}{t2:Nat}{kk kv:IntKind}{v zv:Value}{z0:α}{m:Nat}{xs:List α}{H:Chunk}{r:List Chunk}(zo:∀w,(zeroValue e).run X.P w= .ok zv w)(GN:zv.cells= #[zv])(eZ:enc z0=[zv])(h1:gU zv=true)
 (hT:T.ok X.P)(he:Elem X.P t e 1)(s9:ty T t2=some (.one (.int kk)))(hg:dX ops R gd=some true)
 (hx:ev R x=some v)(hy:ev R y=some (.int kv m))(hp:aR hs H r)(hown:Own enc 1 e v xs H)(hb:xs.length+m<=4294967296)(hdn:Nat.ble (d+1) X.n=true)
 (h:∀v' H',Own enc 1 e v' (xs++List.replicate m z0) H'->OT X ops l k ((d,v')::R) (H'::r)):OT X ops (⟨some d,.call ⟨.builtin .append,#[x,y],#[t,t2]⟩,ty',pos,after,gd⟩::l) k R hs:=by
 refine OT.value hg rfl hdn fun a w ha hm=> ?_
 obtain⟨v',H',w',hr,ho,hm'⟩:=Sx.ic he zo GN eZ h1 (hT.ty s9).1 hown hb (hm.pull hp) ty'
 exact⟨v',_,w',gE (ha.ev hx) (ha.ev hy) t t2 hr,hm',h v' H' ho⟩
omit [au] in
theorem sI{enc:UInt8->List Value}(eZ:∀c,enc c=[.int .u8 c.toNat])(xs:List UInt8):dy (xs.flatMap enc)=true:=by
 have:enc=fun c=>[Value.int .u8 c.toNat]:=funext eZ
 rw[this]
 unfold dy
 induction xs with
 |nil=>rfl
 |cons c l ih=>simp[gU]
omit [au] in
theorem xX(place:Nat->Option (Nat×Nat)):∀(vs:List Value) (i:Nat) (sz:Nat) (cells:List Value),(∀j,i<=j->j<i+vs.length->place j=some (j*sz,sz))->(∀v∈vs,v.cells.size=sz)->cells.length=(i+vs.length)*sz->
 Instr.fill place ⟨cells⟩ ((vs.zipIdx i).map fun p=>(p.2,p.1))=some ⟨cells.take (i*sz)++vs.flatMap (·.cells.toList)⟩:=by
 intro vs
 induction vs with
 |nil=>
  intro i sz cells _ _ hl
  simp only[List.zipIdx_nil,List.map_nil,Instr.fill,List.flatMap_nil,List.append_nil]
  rw[List.take_of_length_le (by rw[hl];simp)]
 |cons v vs ih=>
  intro i sz cells hp hv hl
  simp only[List.zipIdx_cons,List.map_cons,Instr.fill]
  rw[hp i (Nat.le_refl _) (by simp)]
  have hvs:v.cells.size=sz:=hv v (by simp)
  simp only[List.length_cons]at hl
  have hmul:(i+(vs.length+1))*sz=i*sz+sz+vs.length*sz:=by rw[Nat.add_mul,Nat.add_mul];omega
  have EO:(decide (v.cells.size≠sz)||decide (i*sz+v.cells.size>(⟨cells⟩:Array Value).size))=false:=by
   simp[hvs];omega
  simp only[]
  rw[EO]
  simp only[Bool.false_eq_true,if_false]
  have xz:∀(us:List Value) (j:Nat) (cs:List Value),i*sz+j+us.length<=cs.length->
   (us.zipIdx j).foldl (fun(cs:Array Value) (c:Value×Nat)=>cs.setIfInBounds (i*sz+c.2) c.1) ⟨cs⟩=⟨splice cs (i*sz+j) us⟩:=by
   intro us
   induction us with
   |nil=>intro j cs _;simp[splice]
   |cons u us ih2=>
    intro j cs h
    simp only[List.length_cons]at h
    simp only[List.zipIdx_cons,List.foldl_cons]
    have e1:(⟨cs⟩:Array Value).setIfInBounds (i*sz+j) u=⟨cs.set (i*sz+j) u⟩:=by
     apply Array.ext';simp
    rw[e1,ih2 (j+1) _ (by simp;omega)]
    congr 1
    simp only[splice]
    have:=list_seg_step cs (i*sz+j) u us (by omega)
    rw[show i*sz+(j+1)=i*sz+j+1 from by omega,this]
    simp
  have hz:(v.cells.zipIdx).foldl (fun(cs:Array Value) (c:Value×Nat)=>cs.setIfInBounds (i*sz+c.2) c.1) ⟨cells⟩=⟨splice cells (i*sz) v.cells.toList⟩:=by
   rw[<-Array.foldl_toList,Array.toList_zipIdx]
   have:=xz v.cells.toList 0 cells (by simp;rw[hvs];omega)
   simpa using this
  rw[show(fun(cs:Array Value) (x:Value×Nat)=>match x with|(c,j)=>cs.setIfInBounds (i*sz+j) c)=(fun(cs:Array Value) (c:Value×Nat)=>cs.setIfInBounds (i*sz+c.2) c.1)from rfl,hz]
  have hlen:(splice cells (i*sz) v.cells.toList).length=cells.length:=gy (by simp;rw[hvs];omega)
  rw[ih (i+1) sz _ (fun j h1 h2=>hp j (by omega) (by simp;omega)) (fun u hu=>hv u (by simp[hu])) (by rw[hlen,hl];congr 1;omega)]
  congr 2
  simp only[List.flatMap_cons,<-List.append_assoc]
  congr 1
  rw[Nat.succ_mul]
  simp only[splice,List.append_assoc]
  have h2:v.cells.toList.length=sz:=by simpa using hvs
  have h1:(cells.take (i*sz)++v.cells.toList).length=i*sz+sz:=by simp[hvs];omega
  rw[<-List.append_assoc,<-h1,List.take_left]
theorem OT.buildSlice{parts:Array (Nat×Operand)}{n:Nat}{gQ:List Operand}{vs:List Value}{xs:List α}(he:Elem X.P t e sz)(zU:parts.toList=(gQ.zipIdx).map fun p=>(p.2,p.1))(hg:dX ops R gd=some true)(hxs:ng R gQ=some vs)
 (hn:vs.length=n)(nt:vs.flatMap (·.cells.toList)=xs.flatMap enc)(hsz:∀v∈vs,v.cells.size=sz)(eZ:∀x∈xs,(enc x).length=sz)(S5:xs.length=n)(l6:n*sz<=16777216)(hdn:Nat.ble (d+1) X.n=true)
 (h:∀v' H',Own enc sz e v' xs H'->OT X ops l k ((d,v')::R) (H'::hs)):OT X ops (⟨some d,.buildSlice t n parts,ty',pos,after,gd⟩::l) k R hs:=by
 obtain⟨z,hz,hzs⟩:=he.zero
 refine OT.value hg rfl hdn fun a w ha hm=>⟨.slice (some ⟨w.heap.size,0,none⟩) n n,[(w.heap.size,blk (vs.flatMap (·.cells.toList)) e (0,0))]::hs,w.alloc (.cells ⟨vs.flatMap (·.cells.toList)⟩ e),?_,hm.alloc _,h _ _ ⟨eZ,.inr ⟨w.heap.size,n,[],[],(0,0),by rw[S5];rfl,by rw[nt];simp,by omega,by rw[S5];simp,.inl (Nat.le_refl _)⟩⟩⟩
 have JW:=ha.ng hxs
 have hlen:gQ.length=n:=by rw[<-hn,<-JW];simp
 have tn:(parts.map fun(p:Nat×Operand)=>(p.1,a.eval p.2)).toList=(vs.zipIdx).map fun p=>(p.2,p.1):=by
  rw[Array.toList_map,zU,<-JW,List.zipIdx_map]
  simp[Function.comp_def]
 have hrun:(Instr.buildSlice t n (parts.map fun(p:Nat×Operand)=>(p.1,a.eval p.2))).run X.P w= .ok (.slice (some ⟨w.heap.size,0,none⟩) n n) (w.alloc (.cells ⟨vs.flatMap (·.cells.toList)⟩ e)):=by
  unfold Instr.buildSlice
  rw[Sem.run_bind,run_underlying he.BL]
  simp only[Result.andThen_ok]
  rw[Sem.run_bind,he.size]
  simp only[Result.andThen_ok]
  have Kp:¬(n*sz>2^24):=by
   have:(2:Nat)^24=16777216:=by decide
   omega
  simp only[Kp,if_false]
  have gw:∀zc:Array Value,Instr.fill (fun i=>some (i*sz,sz)) ((Array.range (n*sz)).map (zc[·%zc.size]!)) (parts.map fun(p:Nat×Operand)=>(p.1,a.eval p.2)).toList=some ⟨vs.flatMap (·.cells.toList)⟩:=by
   intro zc
   have gw:=xX (fun i=>some (i*sz,sz)) vs 0 sz ((Array.range (n*sz)).map (zc[·%zc.size]!)).toList (fun _ _ _=>rfl) hsz (by simp[hn])
   rw[<-tn]at gw
   simp only[Nat.zero_mul,List.take_zero,List.nil_append]at gw
   exact gw
  by_cases h0:n*sz=0
  . rw[if_pos h0,Sem.run_bind,Sem.run_pure]
    simp only[Result.andThen_ok,gw]
    simp only[newRow,Sem.run_bind,run_newObj_alloc,Result.andThen_ok,Sem.run_pure]
  . rw[if_neg h0,Sem.run_bind,hz]
    simp only[Result.andThen_ok]
    rw[Sem.run_bind,Sem.run_pure]
    simp only[Result.andThen_ok,gw]
    simp only[newRow,Sem.run_bind,run_newObj_alloc,Result.andThen_ok,Sem.run_pure]
 simp only[execOp]
 have e2:(parts.map fun x=>match x with|(i,x)=>(i,a.eval x))=(parts.map fun(p:Nat×Operand)=>(p.1,a.eval p.2)):=rfl
 rw[e2,Sem.run_bind,hrun]
 rfl
end
end Go.Sx
end
section
namespace Go.Sx
open Go
variable[au]
def wU(P:Program)(ops:Array Oper)(Q:Exit->Act->World->Prop)(J:Array Bool->World->Prop):Nat->Array Bool->Act->World->Prop
 |0,listed,a,w=>J listed w/\Region.ready .any ops listed=[]/\Q .normal a w
 |fuel+1,listed,a,w=>J listed w/\(Region.ready .any ops listed=[]->Q .normal a w)/\
  ∀i∈Region.ready .any ops listed,wpOp P ops Q i (wU P ops Q J fuel (listed.setIfInBounds i true)) a w
omit [au] in
theorem Fz{P:Program}{ops:Array Oper}{Q:Exit->Act->World->Prop}{J:Array Bool->World->Prop}:∀(fuel:Nat) (listed:Array Bool) (a:Act) (w:World),wU P ops Q J fuel listed a w->wpAny P .any ops Q fuel listed a w:=by
 intro fuel
 induction fuel with
 |zero=>intro listed a w h;exact h.2
 |succ fuel ih=>intro listed a w h;exact⟨h.2.1,fun i hi=>wpOp_mono (fun a w=>ih _ a w) (h.2.2 i hi)⟩
def fk(P:Program)(ops:Array Oper)(J:World->Prop)(o:Oper)(v:Value)(a:Act):Prop:=
 (Region.wanted o (yielded ops a.tmps)=true/\∀w,J w->(execOp a.eval o).run P w= .ok (.value v) w)\/(Region.wanted o (yielded ops a.tmps)=false/\v=undef)
section
variable{P:Program}{ops:Array Oper}{Q:Exit->Act->World->Prop}{J:World->Prop}
omit [au] in
theorem fk.wpOp{i:Nat}{o:Oper}{v:Value}{a:Act}{w:World}{K:Act->World->Prop}(hi:ops[i]? =some o)(hy:fk P ops J o v a)(hJ:J w)(h:K (a.put o.dst v) w):Go.wpOp P ops Q i K a w:=by
 unfold Go.wpOp
 simp only[hi]
 rcases hy with⟨hw,hv⟩|⟨hw,rfl⟩
 . simp only[hw,if_true,Oper.wp,hv w hJ,Oper.upon];exact .inl h
 . simp only[hw,Bool.false_eq_true,if_false];exact h
omit [au] in
theorem fk.of_same{o:Oper}{v:Value}{a a':Act}(hy:fk P ops J o v a)(he:execOp a'.eval o=execOp a.eval o)
 (hw:Region.wanted o (yielded ops a'.tmps)=Region.wanted o (yielded ops a.tmps)):fk P ops J o v a':=by
 unfold fk at*
 rw[he,hw]
 exact hy
omit [au] in
theorem C1{j:Nat}{oi oj:Oper}{v:Value}(hj:ops[j]? =some oj)(hap:oi.apart ops oj=true)
 (hsi:∀cs b,oi.op≠.select cs b)(hsj:∀cs b,oj.op≠.select cs b)
 (hQ:∀c a w,Q (.panic c) (a.put oi.dst v) w->Q (.panic c) a w){K:Act->World->Prop}{a:Act}{w:World}
 (hy:fk P ops J oi v a)(h:wpOp P ops Q j K (a.put oi.dst v) w):
 wpOp P ops Q j (fun a' w'=>fk P ops J oi v a'/\K (a'.put oi.dst v) w') a w:=by
 obtain⟨h1,h2,h3⟩:=Oper.apart_spec hap
 have keep:∀(a:Act),fk P ops J oi v a->∀u,fk P ops J oi v (a.put oj.dst u):=fun a hy u=>
  hy.of_same (execOp_put oi hsi a oj.dst u h3) (wanted_put oi a oj.dst u h3)
 have Oa:∀d,fk P ops J oi v {a with defers:=d::a.defers}:=fun d=>hy.of_same rfl rfl
 unfold wpOp at*
 simp only[hj]at*
 rw[wanted_put oj a oi.dst v h1]at h
 split
 . rename_i hw
   simp only[hw,if_true]at h
   rcases h with h|⟨hasks,Ob⟩
   case inr=>exact .inr ⟨by unfold Oper.asks at*;rw[execOp_put oj hsj a oi.dst v h1]at hasks;exact hasks,Ob⟩
   refine .inl ?_
   unfold Oper.wp at*
   rw[execOp_put oj hsj a oi.dst v h1]at h
   generalize(execOp a.eval oj).run P w=r at*
   cases r with
   |ok n w'=>
    cases n<;>simp only[Oper.upon]at h⊢
    case value u=>exact⟨keep a hy u,by rw[<-Act.put_comm a v u h2];exact h⟩
    case skip=>exact⟨keep a hy _,by rw[<-Act.put_comm a v undef h2];exact h⟩
    case defer d=>
     refine⟨keep _ (Oa d) _,?_⟩
     rw[<-Act.put_comm _ v undef h2,<-Act.put_defers]
     exact h
    case enter f args=>
     refine Calls.mono h fun e w'' he=> ?_
     cases e with
     |returned u=>exact⟨keep a hy u,by rw[<-Act.put_comm a v u h2];exact he⟩
     |panicked c=>exact hQ _ _ _ he
     |outgrown=>exact he
    case row row args=>exact Rows.mono h fun u w'' he=>⟨keep a hy u,by rw[<-Act.put_comm a v u h2];exact he⟩
   |halt x w'=>
    cases x<;>simp only[Oper.upon]at h⊢
    case panic u=>exact hQ _ _ _ h
 . rename_i hw
   simp only[hw]at h
   exact⟨keep a hy _,by rw[<-Act.put_comm a v undef h2];exact h⟩
def JD(D:List Nat)(J:World->Prop)(listed:Array Bool)(w:World):Prop:=(∀d∈D,listed.getD d true=false)->J w
structure S6(ops:Array Oper)(B:List Nat)(i:Nat)(D:List Nat):Prop where
 sub:∀d∈D,d∈B/\d≠i
 mem:i∈B
 pred:∀b∈B,b≠i->∃o,ops[b]? =some o/\∃e∈o.after,Region.binds .any e=true/\e.on∈B
omit [au] in
theorem nD{i:Nat}{oi:Oper}{v:Value}{D B:List Nat}(hB:S6 ops B i D)(hi:ops[i]? =some oi)(hsel:∀(j:Nat) (o:Oper) cs b,ops[j]? =some o->o.op≠.select cs b)
 (hQ:∀c a w,Q (.panic c) (a.put oi.dst v) w->Q (.panic c) a w):
 ∀(fuel:Nat) (listed:Array Bool) (a:Act) (w:World),
  (∀j oj,ops[j]? =some oj->j≠i->listed.getD j true=false->(∀e∈oj.after,Region.binds .any e=true->e.on≠i)->oi.apart ops oj=true)->
  (∀b∈B,listed.getD b true=false)->i∈Region.ready .any ops listed->fk P ops J oi v a->
  wU P ops Q (JD D J) fuel (listed.setIfInBounds i true) (a.put oi.dst v) w->wU P ops Q (JD D J) (fuel+1) listed a w:=by
 have hJ:∀{listed:Array Bool} {w:World},(∀b∈B,listed.getD b true=false)->JD D J (listed.setIfInBounds i true) w->J w:=fun zq h=>
  h fun d hd=>by rw[getD_set_ne true (Ne.symm (hB.sub d hd).2)];exact zq d (hB.sub d hd).1
 intro fuel
 induction fuel with
 |zero=>
  intro listed a w _ zq hr hy H
  refine⟨fun _=>hJ zq H.1,fun h=>(by rw[h]at hr;cases hr),fun j hj=> ?_⟩
  by_cases hji:j=i
  . subst hji;exact hy.wpOp hi (hJ zq H.1) H
  . have:=ready_mono hj hji
    rw[H.2.1]at this
    cases this
 |succ fuel ih=>
  intro listed a w hfree zq hr hy H
  refine⟨fun _=>hJ zq H.1,fun h=>(by rw[h]at hr;cases hr),fun j hj=> ?_⟩
  by_cases hji:j=i
  . subst hji;exact hy.wpOp hi (hJ zq H.1) H
  . have h1:=H.2.2 j (ready_mono hj hji)
    obtain⟨Np,oj,PE,hall⟩:=mem_ready.1 hj
    have hnot:∀e∈oj.after,Region.binds .any e=true->e.on≠i:=fun e he hb heq=>by
     have h1:=hall e he hb
     have h0:=(mem_ready.1 hr).1
     rw[heq]at h1
     rcases Nat.lt_or_ge i listed.size with h'|h'
     . simp[h']at h0 h1;rw[h0]at h1;cases h1
     . simp[Array.getElem?_eq_none h']at h1
    have P5:j∉B:=fun P5=>by
     obtain⟨o',ho',e,he,hb,P6⟩:=hB.pred j P5 hji
     rw[PE]at ho';cases ho'
     have h1:=hall e he hb
     have h0:=zq e.on P6
     rcases Nat.lt_or_ge e.on listed.size with h'|h'
     . simp[h']at h0 h1;rw[h0]at h1;cases h1
     . simp[Array.getElem?_eq_none h']at h1
    have h2:=C1 PE (hfree j oj PE hji Np hnot) (fun cs b=>hsel i oi cs b hi) (fun cs b=>hsel j oj cs b PE) hQ hy h1
    have Lh:∀k ok,ops[k]? =some ok->k≠i->(listed.setIfInBounds j true).getD k true=false->
     (∀e∈ok.after,Region.binds .any e=true->e.on≠i)->oi.apart ops ok=true:=fun k ok hk hki hun hno=>by
     refine hfree k ok hk hki ?_ hno
     by_cases PF:j=k
     . subst PF;exact Np
     . rw[getD_set_ne true PF]at hun;exact hun
    have Ry:∀b∈B,(listed.setIfInBounds j true).getD b true=false:=fun b hb=>by
     rw[getD_set_ne true (fun e=>P5 (by rw[e];exact hb))];exact zq b hb
    refine wpOp_mono (fun a' w' h3=>ih (listed.setIfInBounds j true) a' w' Lh Ry (ready_mono hr (Ne.symm hji)) h3.1 ?_) h2
    rw[Array.setIfInBounds_comm _ _ hji]
    exact h3.2
def uf(ops:Array Oper)(i:Nat):List Nat:=
 (List.range ops.size).foldl (fun B j=>if((ops[j]?).map fun o=>o.after.toList.any fun e=>Region.binds .any e&&B.contains e.on).getD false then j::B else B) [i]
def vq(ops:Array Oper)(D:List Nat)(listed:List Bool)(i:Nat):Bool:=
 D.isEmpty||((uf ops i).all (fun b=>listed.getD b true==false)&&D.all (fun d=>(uf ops i).contains d&&d !=i)&&(uf ops i).contains i&&
   (uf ops i).all fun b=>b==i||((ops[b]?).map fun o=>o.after.toList.any fun e=>Region.binds .any e&&(uf ops i).contains e.on).getD false)
omit [au] in
theorem p7{D:List Nat}{listed:List Bool}{i:Nat}(h:vq ops D listed i=true)(hr:i∈Region.ready .any ops ⟨listed⟩):∃B,S6 ops B i D/\∀b∈B,(⟨listed⟩:Array Bool).getD b true=false:=by
 have hg:∀b,(⟨listed⟩:Array Bool).getD b true=listed.getD b true:=fun b=>by
  rw[Array.getD_eq_getD_getElem?,List.getD_eq_getElem?_getD];simp
 unfold vq at h
 rw[Bool.or_eq_true]at h
 rcases h with h|h
 . have hD:D=[]:=by simpa using h
   subst hD
   refine⟨[i],⟨fun d hd=>(by cases hd),(by simp),fun b hb hne=>absurd (List.mem_singleton.1 hb) hne⟩,fun b hb=> ?_⟩
   rw[List.mem_singleton]at hb;subst hb
   exact(mem_ready.1 hr).1
 . simp only[Bool.and_eq_true]at h
   obtain⟨⟨⟨h1,h2⟩,h3⟩,h4⟩:=h
   rw[List.all_eq_true]at h1 h2 h4
   refine⟨uf ops i,⟨fun d hd=> ?_,by simpa using h3,fun b hb hne=> ?_⟩,fun b hb=> ?_⟩
   . have:=h2 d hd;simpa using this
   . have:=h4 b hb
     rw[Bool.or_eq_true]at this
     rcases this with this|this
     . exact absurd (by simpa using this) hne
     . cases ho:ops[b]?with
       |none=>rw[ho]at this;cases this
       |some o=>
        rw[ho]at this
        simp only[Option.map_some,Option.getD_some,List.any_eq_true,Bool.and_eq_true]at this
        obtain⟨e,he,k3,P6⟩:=this
        exact⟨o,rfl,e,by simpa using he,k3,by simpa using P6⟩
   . rw[hg];have:=h1 b hb;simpa using this
end
section
variable{X:Cx}{k:dx}{R:ee}{hs Cs:List Chunk}{ops:Array Oper}{T:aE}{D:List Nat}
def AT(X:Cx)(ops:Array Oper)(Cs:List Chunk)(k:dx)(fuel:Nat)(listed:List Bool)(R:ee)(hs:List Chunk)(D:List Nat:=[]):Prop:=
 ∀a w,Fits X.n R a->Mem hs w->wU X.P ops (k.Q X) (JD D (Mem Cs)) fuel ⟨listed⟩ a w
theorem TT.EP{id:Nat}(D:List Nat)(Cs:List Chunk)(hm:X.P.follows .mixedOrders=true)(h:AT X ops Cs k ops.size (List.replicate ops.size false) R hs D):TT X (.region id ops true) k R hs:=by
 intro a w ha hw
 refine wp_region_any hm (Fz (J:=JD D (Mem Cs)) _ _ _ _ ?_)
 have:=h a {w with drawn:=w.drawn+1} ha hw.ue
 have e:Array.replicate ops.size false=⟨List.replicate ops.size false⟩:=by apply Array.ext';simp
 rw[e]
 exact this
theorem TT.draw{id:Nat}(Cs:List Chunk)(hm:X.P.follows .mixedOrders=true)(h:AT X ops Cs k ops.size (List.replicate ops.size false) R hs):TT X (.region id ops true) k R hs:=TT.EP [] Cs hm h
theorem AT.weaken{fuel:Nat}{listed:List Bool}{R':ee}{hs':List Chunk}(hr:aa R' R)(hm:bp hs hs')(h:AT X ops Cs k fuel listed R' hs' D):AT X ops Cs k fuel listed R hs D:=
 fun a w ha hw=>h a w (ha.sub hr) (hw.kf hm)
theorem AT.split{fuel:Nat}{listed:List Bool}(t:Nat){b:Bool}(hb:look R t=some (.bool b))(ht:b=true->AT X ops Cs k fuel listed ((t,.bool true)::R) hs D)(hf:b=false->AT X ops Cs k fuel listed ((t,.bool false)::R) hs D):
 AT X ops Cs k fuel listed R hs D:=by
 intro a w ha hm
 have key:∀c,b=c->Fits X.n ((t,.bool c)::R) a:=fun c hc=>⟨ha.size,ha.defers,fun u v h=>by
  rw[eN]at h
  by_cases e:t=u
  . subst e;rw[if_pos rfl]at h;rw[<-hc]at h;exact ha.jX _ _ (hb.trans h)
  . rw[if_neg e]at h;exact ha.jX u v h⟩
 cases b with
 |true=>exact ht rfl a w (key true rfl) hm
 |false=>exact hf rfl a w (key false rfl) hm
inductive Fl(X:Cx)(T:aE)(Cs:List Chunk)(R:ee):Op->Value->Prop
 |pure {o:Op} {v:Value}:D6 T R o=some v->Fl X T Cs R o v
 |load {t:Nat} {x:Operand} {ad:Addr} {v:Value}:ev R x=some (.pointer (some ad))->Ld X.P Cs t ad v->Fl X T Cs R (.load t x) v
 |MK {op:Op} {v:Value}:(∀(o:Oper) (a:Act) (w:World),o.op=op->Fits X.n R a->(execOp a.eval o).run X.P w= .ok (.value v) w)->Fl X T Cs R op v
theorem Fl.run(hT:T.ok X.P){o:Oper}{v:Value}(h:Fl X T Cs R o.op v){a:Act}(ha:Fits X.n R a){w:World}(hw:Mem Cs w):(execOp a.eval o).run X.P w= .ok (.value v) w:=by
 generalize ho:o.op=p at h
 cases h with
 |pure hp=>exact zT hT ha (by rw[ho];exact hp) w
 |load hx hl=>
  have:=hl w hw
  simp[execOp,ho,ha.ev hx,Instr.loadAt,Instr.sureAddr,this]
 |MK hd=>exact hd o a w ho ha
theorem AT.take(hT:T.ok X.P)(i:Nat){o:Oper}{d:Nat}{v:Value}{fuel:Nat}{listed:List Bool}(hi:ops.toList[i]? =some o)(hd:o.dst=some d)(hs0:Region.noSelect ops=true)(hfree:(Region.free .any ops ⟨listed⟩ i&&vq ops D listed i)=true)
 (fQ:(Region.ready .any ops ⟨listed⟩).contains i=true)(hg:dX ops R o.guard=some true)(hv:Fl X T Cs R o.op v)(hdn:Nat.ble (d+1) X.n=true)
 (h:AT X ops Cs k fuel (listed.set i true) ((d,v)::R) hs D):AT X ops Cs k (fuel+1) listed R hs D:=by
 intro a w ha hm
 have hi':ops[i]? =some o:=by simpa using hi
 rw[Bool.and_eq_true]at hfree
 obtain⟨B,hB,zq⟩:=p7 hfree.2 (by simpa using fQ)
 refine nD hB hi' (Region.noSelect_spec hs0) (fun c a w hq=> ?_) fuel ⟨listed⟩ a w (Region.free_spec hi' hfree.1) zq (by simpa using fQ) (.inl ⟨fP ha hg,fun w' MJ=>hv.run hT ha MJ⟩) ?_
 . rw[dx.oF]at hq⊢
   rw[hd]at hq
   exact hq
 . have:=h (a.put (some d) v) w (ha.put hdn v) hm
   rw[hd]
   have e:(⟨listed⟩:Array Bool).setIfInBounds i true=⟨listed.set i true⟩:=by apply Array.ext';simp
   rw[e]
   exact this
theorem AT.skip(i:Nat){o:Oper}{d:Nat}{fuel:Nat}{listed:List Bool}(hi:ops.toList[i]? =some o)(hd:o.dst=some d)(hs0:Region.noSelect ops=true)(hfree:(Region.free .any ops ⟨listed⟩ i&&vq ops D listed i)=true)
 (fQ:(Region.ready .any ops ⟨listed⟩).contains i=true)(hg:dX ops R o.guard=some false)(hdn:Nat.ble (d+1) X.n=true)
 (h:AT X ops Cs k fuel (listed.set i true) ((d,undef)::R) hs D):AT X ops Cs k (fuel+1) listed R hs D:=by
 intro a w ha hm
 have hi':ops[i]? =some o:=by simpa using hi
 rw[Bool.and_eq_true]at hfree
 obtain⟨B,hB,zq⟩:=p7 hfree.2 (by simpa using fQ)
 refine nD hB hi' (Region.noSelect_spec hs0) (fun c a w hq=> ?_) fuel ⟨listed⟩ a w (Region.free_spec hi' hfree.1) zq (by simpa using fQ) (.inr ⟨fP ha hg,rfl⟩) ?_
 . rw[dx.oF]at hq⊢
   rw[hd]at hq
   exact hq
 . have:=h (a.put (some d) undef) w (ha.put hdn undef) hm
   rw[hd]
   have e:(⟨listed⟩:Array Bool).setIfInBounds i true=⟨listed.set i true⟩:=by apply Array.ext';simp
   rw[e]
   exact this
def Ev(X:Cx)(ops:Array Oper)(Cs:List Chunk)(k:dx)(fuel:Nat)(listed:List Bool)(D:List Nat:=[]):dx:= .loop (fun a w=>wU X.P ops (k.Q X) (JD D (Mem Cs)) fuel ⟨listed⟩ a w) k
theorem KT.any{fuel:Nat}{listed:List Bool}(h:AT X ops Cs k fuel listed R hs D):KT X (Ev X ops Cs k fuel listed D) R hs:=fun a w ha hm=>h a w ha hm
omit [au] in
theorem oX{i:Nat}{o:Oper}(hi:ops[i]? =some o){a:Act}{w:World}{J:Act->World->Prop}(h:wpList X.P ops ((dx.loop J k).Q X) [o] a w):wpOp X.P ops (k.Q X) i J a w:=by
 unfold wpOp
 simp only[hi]
 simp only[wpList]at h
 split at h
 . rename_i hw
   rw[if_pos hw]
   rcases h with h|⟨h1,a0,w0,h2⟩
   . refine .inl ?_
     unfold Oper.wp at h⊢
     generalize(execOp a.eval o).run X.P w=r at*
     cases r with
     |ok n w'=>cases n<;>exact h
     |halt x w'=>cases x<;>exact h
   . exact .inr ⟨h1,a0,w0,h2⟩
 . rename_i hw
   rw[if_neg hw]
   exact h
theorem AT.all{fuel:Nat}{listed:List Bool}(rs:List Nat)(hr:Region.ready .any ops ⟨listed⟩=rs)(hne:rs≠[])(hsel:bp hs Cs)
 (h:∀i∈rs,∃o,ops.toList[i]? =some o/\OT X ops [o] (Ev X ops Cs k fuel (listed.set i true) D) R hs):AT X ops Cs k (fuel+1) listed R hs D:=by
 intro a w ha hm
 refine⟨fun _=>hm.kf hsel,fun h0=>absurd (hr▸h0) hne,fun i hi=> ?_⟩
 rw[hr]at hi
 obtain⟨o,ho,ML⟩:=h i hi
 have hi':ops[i]? =some o:=by simpa using ho
 have e:(⟨listed⟩:Array Bool).setIfInBounds i true=⟨listed.set i true⟩:=by apply Array.ext';simp
 rw[e]
 exact oX hi' (ML a w ha hm)
theorem AT.op{fuel:Nat}{listed:List Bool}(i:Nat){o:Oper}(hr:Region.ready .any ops ⟨listed⟩=[i])(ho:ops.toList[i]? =some o)(hsel:bp hs Cs)
 (h:OT X ops [o] (Ev X ops Cs k fuel (listed.set i true) D) R hs):AT X ops Cs k (fuel+1) listed R hs D:=
 AT.all [i] hr (by simp) hsel fun j hj=>by rw[List.mem_singleton]at hj;subst hj;exact⟨o,ho,h⟩
theorem AT.done{fuel:Nat}{listed:List Bool}(hr:Region.ready .any ops ⟨listed⟩=[])(hsel:bp hs Cs)(h:KT X k R hs):AT X ops Cs k fuel listed R hs D:=by
 intro a w ha hm
 cases fuel with
 |zero=>exact⟨fun _=>hm.kf hsel,hr,h a w ha hm⟩
 |succ n=>exact⟨fun _=>hm.kf hsel,fun _=>h a w ha hm,fun i hi=>by rw[hr]at hi;cases hi⟩
omit [au] in
theorem JD.off{listed:List Bool}{J:World->Prop}(h:D.all (fun d=>listed.getD d true==false)=false)(w:World):JD D J ⟨listed⟩ w:=fun hall=>by
 exfalso
 have:D.all (fun d=>listed.getD d true==false)=true:=List.all_eq_true.2 fun d hd=>by
  have:=hall d hd
  rw[Array.getD_eq_getD_getElem?]at this
  rw[List.getD_eq_getElem?_getD]
  simpa using this
 rw[this]at h;cases h
theorem AT.Rz{fuel:Nat}{listed:List Bool}(rs:List Nat)(hr:Region.ready .any ops ⟨listed⟩=rs)(hne:rs≠[])(hoff:D.all (fun d=>listed.getD d true==false)=false)
 (h:∀i∈rs,∃o,ops.toList[i]? =some o/\OT X ops [o] (Ev X ops Cs k fuel (listed.set i true) D) R hs):AT X ops Cs k (fuel+1) listed R hs D:=by
 intro a w ha hm
 refine⟨JD.off hoff w,fun h0=>absurd (hr▸h0) hne,fun i hi=> ?_⟩
 rw[hr]at hi
 obtain⟨o,ho,ML⟩:=h i hi
 have hi':ops[i]? =some o:=by simpa using ho
 have e:(⟨listed⟩:Array Bool).setIfInBounds i true=⟨listed.set i true⟩:=by apply Array.ext';simp
 rw[e]
 exact oX hi' (ML a w ha hm)
theorem AT.Ml{fuel:Nat}{listed:List Bool}(i:Nat){o:Oper}(hr:Region.ready .any ops ⟨listed⟩=[i])(ho:ops.toList[i]? =some o)(hoff:D.all (fun d=>listed.getD d true==false)=false)
 (h:OT X ops [o] (Ev X ops Cs k fuel (listed.set i true) D) R hs):AT X ops Cs k (fuel+1) listed R hs D:=
 AT.Rz [i] hr (by simp) hoff fun j hj=>by rw[List.mem_singleton]at hj;subst hj;exact⟨o,ho,h⟩
theorem AT.Bi{fuel:Nat}{listed:List Bool}(hr:Region.ready .any ops ⟨listed⟩=[])(hoff:D.all (fun d=>listed.getD d true==false)=false)(h:KT X k R hs):AT X ops Cs k fuel listed R hs D:=by
 intro a w ha hm
 cases fuel with
 |zero=>exact⟨JD.off hoff w,hr,h a w ha hm⟩
 |succ n=>exact⟨JD.off hoff w,fun _=>h a w ha hm,fun i hi=>by rw[hr]at hi;cases hi⟩
def Kq(ops:Array Oper)(D:List Nat):List Bool->List Nat->Bool
 |_,[]=>true
 |listed,i::r=>(Region.free .any ops ⟨listed⟩ i&&vq ops D listed i)&&(Region.ready .any ops ⟨listed⟩).contains i&&Kq ops D (listed.set i true) r
def Nq:List Bool->List Nat->List Bool
 |listed,[]=>listed
 |listed,i::r=>Nq (listed.set i true) r
def Ew(T:aE)(n:Nat)(ops:Array Oper)(l:List Oper):List Nat->ee->Option ee
 |[],R=>some R
 |i::r,R=>match l[i]?with
  |none=>none
  |some o=>match o.dst with
   |none=>none
   |some d=>match dX ops R o.guard with
    |some true=>match D6 T R o.op with
     |some v=>cond (Nat.ble (d+1) n) (Ew T n ops l r ((d,v)::R)) none
     |none=>none
    |some false=>cond (Nat.ble (d+1) n) (Ew T n ops l r ((d,undef)::R)) none
    |none=>none
theorem AT.takes(hT:T.ok X.P)(is:List Nat):∀{fuel:Nat} {listed:List Bool} {R R':ee},Region.noSelect ops=true->Kq ops D listed is=true->Ew T X.n ops ops.toList is R=some R'->
 AT X ops Cs k fuel (Nq listed is) R' hs D->AT X ops Cs k (fuel+is.length) listed R hs D:=by
 induction is with
 |nil=>
  intro fuel listed R R' _ _ hr h
  simp only[Ew,Option.some.injEq]at hr
  subst hr
  exact h
 |cons i r ih=>
  intro fuel listed R R' hs0 hc hr h
  rw[Kq,Bool.and_eq_true,Bool.and_eq_true]at hc
  simp only[Ew]at hr
  split at hr
  . cases hr
  . rename_i o ho
    split at hr
    . cases hr
    . rename_i d hd
      split at hr
      . rename_i hg
        split at hr
        . rename_i v hv
          cases hb:Nat.ble (d+1) X.n with
          |false=>rw[hb]at hr;cases hr
          |true=>
           rw[hb]at hr
           exact AT.take hT i ho hd hs0 hc.1.1 hc.1.2 hg (.pure hv) hb (ih hs0 hc.2 hr h)
        . cases hr
      . rename_i hg
        cases hb:Nat.ble (d+1) X.n with
        |false=>rw[hb]at hr;cases hr
        |true=>
         rw[hb]at hr
         exact AT.skip i ho hd hs0 hc.1.1 hc.1.2 hg hb (ih hs0 hc.2 hr h)
      . cases hr
theorem AT.Bj(i:Nat){o:Oper}{d:Nat}{v:Value}{fuel:Nat}{listed:List Bool}(hi:ops.toList[i]? =some o)(hd:o.dst=some d)(hs0:Region.noSelect ops=true)(hfree:(Region.free .any ops ⟨listed⟩ i&&vq ops D listed i)=true)
 (fQ:(Region.ready .any ops ⟨listed⟩).contains i=true)(hg:dX ops R o.guard=some true)(hv:∀a w,Fits X.n R a->Mem Cs w->(execOp a.eval o).run X.P w= .ok (.value v) w)(hdn:Nat.ble (d+1) X.n=true)
 (h:AT X ops Cs k fuel (listed.set i true) ((d,v)::R) hs D):AT X ops Cs k (fuel+1) listed R hs D:=by
 intro a w ha hm
 have hi':ops[i]? =some o:=by simpa using hi
 rw[Bool.and_eq_true]at hfree
 obtain⟨B,hB,zq⟩:=p7 hfree.2 (by simpa using fQ)
 refine nD hB hi' (Region.noSelect_spec hs0) (fun c a w hq=> ?_) fuel ⟨listed⟩ a w (Region.free_spec hi' hfree.1) zq (by simpa using fQ) (.inl ⟨fP ha hg,fun w' MJ=>hv a w' ha MJ⟩) ?_
 . rw[dx.oF]at hq⊢
   rw[hd]at hq
   exact hq
 . have:=h (a.put (some d) v) w (ha.put hdn v) hm
   rw[hd]
   have e:(⟨listed⟩:Array Bool).setIfInBounds i true=⟨listed.set i true⟩:=by apply Array.ext';simp
   rw[e]
   exact this
theorem AT.index{α:Type}{enc:α->List Value}{sz e t d ty':Nat}{pos:String}{after:Array Edge}{gd:Option (Nat×Bool)}{x ix:Operand}{v:Value}{xs:List α}{kk:IntKind}{z:Int}{y:α}{fuel:Nat}{listed:List Bool}(hT:T.ok X.P)(i:Nat)
 (hi:ops.toList[i]? =some ⟨some d,.indexAddr t x ix,ty',pos,after,gd⟩)(hs0:Region.noSelect ops=true)(hfree:(Region.free .any ops ⟨listed⟩ i&&vq ops D listed i)=true)
 (fQ:(Region.ready .any ops ⟨listed⟩).contains i=true)(hg:dX ops R gd=some true)(ht:ty T t=some (.slice e sz))(hx:ev R x=some v)(zn:ev R ix=some (.int kk z))
 (hrow:Row enc sz Cs v xs)(h0:0<=z)(hz:xs[z.toNat]? =some y)(hdn:Nat.ble (d+1) X.n=true)
 (h:∀ad,El enc sz Cs y ad->AT X ops Cs k fuel (listed.set i true) ((d,.pointer (some ad))::R) hs D):AT X ops Cs k (fuel+1) listed R hs D:=by
 obtain⟨b,o,cap,rfl,hel⟩:=hrow.el hz
 have hil:z.toNat<xs.length:=(List.getElem?_eq_some_iff.1 hz).1
 refine AT.Bj i hi rfl hs0 hfree fQ hg (fun a w ha hm=> ?_) hdn (h _ hel)
 have hu:=(hT.ty ht).1
 have hsz:=(hT.ty ht).2.1 w
 simp only[execOp,ha.ev hx,ha.ev zn]
 have:(Instr.indexAt t (.slice (some ⟨b,o,none⟩) xs.length cap) (.int kk z)).run X.P w= .ok (.pointer (some ⟨b,o+z.toNat*sz,none⟩)) w:=by
  have hlt:z<(xs.length:Int):=by omega
  simp[Instr.indexAt,asIntOf,run_underlying hu,h0,hlt,hsz,bX]
 simp[this]
theorem AT.aT{sz e t d ty' n b o:Nat}{pos:String}{after:Array Edge}{gd:Option (Nat×Bool)}{x ix:Operand}{kk:IntKind}{z:Int}{fuel:Nat}{listed:List Bool}(hT:T.ok X.P)(i:Nat)
 (hi:ops.toList[i]? =some ⟨some d,.indexAddr t x ix,ty',pos,after,gd⟩)(hs0:Region.noSelect ops=true)(hfree:(Region.free .any ops ⟨listed⟩ i&&vq ops D listed i)=true)
 (fQ:(Region.ready .any ops ⟨listed⟩).contains i=true)(hg:dX ops R gd=some true)(ht:ty T t=some (.arr n e sz))(hx:ev R x=some (.pointer (some ⟨b,o,none⟩)))(zn:ev R ix=some (.int kk z))
 (h0:0<=z)(hz:z<n)(hdn:Nat.ble (d+1) X.n=true)
 (h:AT X ops Cs k fuel (listed.set i true) ((d,.pointer (some ⟨b,o+z.toNat*sz,none⟩))::R) hs D):AT X ops Cs k (fuel+1) listed R hs D:=by
 refine AT.Bj i hi rfl hs0 hfree fQ hg (fun a w ha hm=> ?_) hdn h
 have hu:=(hT.ty ht).1
 have hsz:=(hT.ty ht).2.1
 simp only[execOp,ha.ev hx,ha.ev zn]
 simp[Instr.indexAt,asIntOf,run_underlying hu,Instr.sureAddr,h0,hz,hsz,bX]
end
end Go.Sx
end
section
namespace Go.Sx
open Go
variable[au]
section
variable{X:Cx}{k:dx}{R:ee}{hs:List Chunk}{ops:Array Oper}{l:List Oper}{T:aE}{d ty':Nat}{pos:String}{after:Array Edge}{gd:Option (Nat×Bool)}
 {α:Type}{enc:α->List Value}{sz e t:Nat}
theorem OT.make{zv:Value}{z0:α}{x y:Operand}{kx ky:IntKind}{n:Nat}(he:Elem X.P t e 1)(zo:∀w,(zeroValue e).run X.P w= .ok zv w)(GN:zv.cells= #[zv])(eZ:enc z0=[zv])
 (hg:dX ops R gd=some true)(hx:ev R x=some (.int kx n))(hy:ev R y=some (.int ky n))(hn:n<=4294967296)(hdn:Nat.ble (d+1) X.n=true)
 (h:∀v' H',Own enc 1 e v' (List.replicate n z0) H'->OT X ops l k ((d,v')::R) (H'::hs)):OT X ops (⟨some d,.makeSlice t x y,ty',pos,after,gd⟩::l) k R hs:=by
 obtain⟨ti,BM,tj,k3⟩:=he.info
 refine OT.value hg rfl hdn fun a w ha hm=> ?_
 have hwrap:IntKind.i64.wrap (n:Int)=(n:Int):=IntWalk.i64_in _ (by omega)
 have l6:¬(ti.bytes*(n:Int)>2^48):=by
  have h1:ti.bytes*n<=4096*4294967296:=Nat.mul_le_mul k3 hn
  have:(2:Int)^48=281474976710656:=by decide
  rw[this]
  have h2:((ti.bytes*n:Nat):Int)<=17592186044416:=by omega
  rw[Int.natCast_mul]at h2
  omega
 have nt:∀m:Nat,((Array.range m).map ((#[zv]:Array Value)[·%(#[zv]:Array Value).size]!))=⟨List.replicate m zv⟩:=by
  intro m
  apply Array.ext'
  simp only[Array.toList_map,Array.toList_range]
  apply List.ext_getElem
  . simp
  . intro i h1 h2
    simp[Nat.mod_one]
 have lB:∀n (w:World),(askRoom n).run X.P w= .ok () w:=by intro n w;unfold askRoom;split<;>rfl
 have hrun:(Instr.makeSlice t (.int kx n) (.int ky n)).run X.P w= .ok (.slice (some ⟨w.heap.size,0,none⟩) n n) (w.alloc (.cells ⟨List.replicate n zv⟩ e)):=by
  unfold Instr.makeSlice
  rw[Sem.run_bind,run_underlying he.BL]
  simp only[Result.andThen_ok,asInt,asIntOf,Sem.run_bind,Sem.run_pure,BM,hwrap]
  have h1:((decide ((n:Int)<0)||decide (ti.bytes*(n:Int)>2^48))||decide ((n:Int)<0)||decide ((n:Int)>n))=false:=by
   simp only[Bool.or_eq_false_iff,decide_eq_false_iff_not]
   exact⟨⟨⟨by omega,l6⟩,by omega⟩,by omega⟩
  rw[h1]
  simp only[Bool.false_eq_true,if_false,Sem.run_bind,lB,Result.andThen_ok,he.size,Int.toNat_natCast,Nat.mul_one]
  split
  . rename_i h0
    subst h0
    simp only[newRow,Sem.run_pure,Result.andThen_ok,Sem.run_bind,run_newObj_alloc]
    congr 3
    apply Array.ext'
    simp
  . simp only[Sem.run_bind,zo,Result.andThen_ok,Sem.run_pure,GN,newRow,run_newObj_alloc,nt]
 refine⟨.slice (some ⟨w.heap.size,0,none⟩) n n,[(w.heap.size,blk (List.replicate n zv) e (0,0))]::hs,w.alloc (.cells ⟨List.replicate n zv⟩ e),?_,hm.alloc _,h _ _ ⟨fun y hy=>by rw[List.eq_of_mem_replicate hy,eZ];rfl,.inr ⟨w.heap.size,n,[],[],(0,0),by simp,?_,by simp,by simp,.inl (Nat.le_refl _)⟩⟩⟩
 . simp only[execOp,ha.ev hx,ha.ev hy]
   rw[Sem.run_bind,hrun]
   rfl
 . rw[ep eZ];simp
def iV(fs:List (Nat×Nat)):List Value->List (Nat×Value)->Option (List Value)
 |cs,[]=>some cs
 |cs,(i,v)::r=>match fs[i]?with
  |none=>none
  |some p=>cond (Nat.beq v.cells.toList.length p.2) (cond (Nat.ble (p.1+p.2) cs.length) (iV fs (splice cs p.1 v.cells.toList) r) none) none
omit [au] in
theorem uA{fs:List (Nat×Nat)}{place:Nat->Option (Nat×Nat)}(hp:∀i p,fs[i]? =some p->place i=some p):∀(parts:List (Nat×Value)) (cs cs':List Value),iV fs cs parts=some cs'->Instr.fill place ⟨cs⟩ parts=some ⟨cs'⟩:=by
 intro parts
 induction parts with
 |nil=>intro cs cs' h;simp only[iV,Option.some.injEq]at h;subst h;rfl
 |cons q r ih=>
  obtain⟨i,v⟩:=q
  intro cs cs' h
  simp only[iV]at h
  cases hq:fs[i]?with
  |none=>rw[hq]at h;cases h
  |some p=>
   rw[hq]at h
   simp only[]at h
   cases h1:Nat.beq v.cells.toList.length p.2 with
   |false=>rw[h1]at h;cases h
   |true=>
    rw[h1]at h
    cases h2:Nat.ble (p.1+p.2) cs.length with
    |false=>rw[h2]at h;cases h
    |true=>
     rw[h2]at h
     have e1:v.cells.size=p.2:=by have:=Nat.eq_of_beq_eq_true h1;simpa using this
     have e2:=Nat.le_of_ble_eq_true h2
     simp only[Instr.fill,hp i p hq]
     have EO:(decide (v.cells.size≠p.2)||decide (p.1+v.cells.size>(⟨cs⟩:Array Value).size))=false:=by
      simp[e1];omega
     rw[EO]
     simp only[Bool.false_eq_true,if_false]
     have xz:∀(us:List Value) (j:Nat) (cs:List Value),p.1+j+us.length<=cs.length->
      (us.zipIdx j).foldl (fun(cs:Array Value) (c:Value×Nat)=>cs.setIfInBounds (p.1+c.2) c.1) ⟨cs⟩=⟨splice cs (p.1+j) us⟩:=by
      intro us
      induction us with
      |nil=>intro j cs _;simp[splice]
      |cons u us ih2=>
       intro j cs h
       simp only[List.length_cons]at h
       simp only[List.zipIdx_cons,List.foldl_cons]
       have e1:(⟨cs⟩:Array Value).setIfInBounds (p.1+j) u=⟨cs.set (p.1+j) u⟩:=by
        apply Array.ext';simp
       rw[e1,ih2 (j+1) _ (by simp;omega)]
       congr 1
       simp only[splice]
       have:=list_seg_step cs (p.1+j) u us (by omega)
       rw[show p.1+(j+1)=p.1+j+1 from by omega,this]
       simp
     have hz:(v.cells.zipIdx).foldl (fun(cs:Array Value) (c:Value×Nat)=>cs.setIfInBounds (p.1+c.2) c.1) ⟨cs⟩=⟨splice cs p.1 v.cells.toList⟩:=by
      rw[<-Array.foldl_toList,Array.toList_zipIdx]
      have:=xz v.cells.toList 0 cs (by simp;omega)
      simpa using this
     rw[show(fun(cs:Array Value) (x:Value×Nat)=>match x with|(c,j)=>cs.setIfInBounds (p.1+j) c)=(fun(cs:Array Value) (c:Value×Nat)=>cs.setIfInBounds (p.1+c.2) c.1)from rfl,hz]
     exact ih _ _ h
def GO(R:ee):List (Nat×Operand)->Option (List (Nat×Value))
 |[]=>some []
 |(i,x)::l=>match ev R x,GO R l with
  |some v,some vs=>some ((i,v)::vs)
  |_,_=>none
omit [au] in
theorem Fits.GO{n:Nat}{a:Act}(ha:Fits n R a):∀{l:List (Nat×Operand)} {vs:List (Nat×Value)},Sx.GO R l=some vs->l.map (fun p=>(p.1,a.eval p.2))=vs:=by
 intro l
 induction l with
 |nil=>intro vs h;simp[Sx.GO]at h;simp[h]
 |cons p l ih=>
  obtain⟨i,x⟩:=p
  intro vs h
  simp only[Sx.GO]at h
  split at h
  . rename_i v vs' hv hvs
    obtain rfl:=Option.some.inj h
    simp[ha.ev hv,ih hvs]
  . cases h
theorem OT.build{fs:List (Nat×Nat)}{z:Value}{parts:Array (Nat×Operand)}{vs:List (Nat×Value)}{cs:List Value}(hT:T.ok X.P)(ht:ty T t=some (.struct fs sz))(hz:∀w,(zeroValue t).run X.P w= .ok z w)
 (hg:dX ops R gd=some true)(hp:GO R parts.toList=some vs)(hc:iV fs z.cells.toList vs=some cs)(hdn:Nat.ble (d+1) X.n=true)
 (h:OT X ops l k ((d,.agg ⟨cs⟩)::R) hs):OT X ops (⟨some d,.build t parts,ty',pos,after,gd⟩::l) k R hs:=by
 obtain⟨⟨F,hu,hF⟩,_⟩:=hT.ty ht
 refine OT.value hg rfl hdn fun a w ha hm=>⟨_,hs,w,?_,hm,h⟩
 have tn:=ha.GO hp
 have Kr:(parts.map fun x=>match x with|(i,x)=>(i,a.eval x)).toList=vs:=by
  rw[Array.toList_map,<-tn]
 have hmap:∀(F:List Field) (fs:List (Nat×Nat)),e_ X.P F fs->(F.mapM fun f=>do pure (f.offset,<-sizeOf f.type):Sem (List (Nat×Nat))).run X.P w= .ok fs w:=by
  intro F fs h
  induction h with
  |nil=>rfl
  |cons ho hs _ ih=>
   rw[List.mapM_cons,Sem.run_bind,Sem.run_bind,hs]
   simp only[Result.andThen_ok,Sem.run_pure]
   rw[Sem.run_bind,ih,ho]
   rfl
 have hrun:(Instr.build t (parts.map fun x=>match x with|(i,x)=>(i,a.eval x))).run X.P w= .ok (.agg ⟨cs⟩) w:=by
  unfold Instr.build
  rw[Sem.run_bind,hz]
  simp only[Result.andThen_ok]
  rw[Sem.run_bind,run_underlying hu]
  simp only[Result.andThen_ok]
  rw[Array.mapM_eq_mapM_toList,Sem.run_bind]
  have hm2:Sem.run X.P (List.toArray<$>(F.toList.mapM fun f=>do pure (f.offset,<-sizeOf f.type):Sem (List (Nat×Nat)))) w= .ok ⟨fs⟩ w:=by
   show Sem.run X.P ((F.toList.mapM fun f=>do pure (f.offset,<-sizeOf f.type):Sem (List (Nat×Nat)))>>=fun x=>pure x.toArray) w=_
   rw[Sem.run_bind,hmap _ _ hF]
   rfl
  rw[hm2]
  simp only[Result.andThen_ok,Kr]
  have gw:=uA (fs:=fs) (place:=fun i=>(⟨fs⟩:Array (Nat×Nat))[i]?) (fun i p hp=>by simpa using hp) vs z.cells.toList cs hc
  have zV:Instr.fill (fun x=>(⟨fs⟩:Array (Nat×Nat))[x]?) z.cells vs=some ⟨cs⟩:=gw
  rw[zV]
  rfl
 simp only[execOp]
 rw[Sem.run_bind,hrun]
 rfl
theorem OT.xA{x:Operand}{f:Nat}{xs:Array Operand}{tys:Array Nat}{caps vs:List Value}{N:Value->List Chunk->Prop}(hc:∀args w,(callFunc f args).run X.P w= .ok (.enter f args) w)
 (hg:dX ops R gd=some true)(hx:ev R x=some (.func (.func f) ⟨[]⟩ ⟨caps⟩))(hxs:ng R xs.toList=some vs)(hdn:Nat.ble (d+1) X.n=true)(hF:aA X.P f (vs++caps) hs N)
 (h:∀v hs',N v hs'->OT X ops l k ((d,v)::R) hs'):OT X ops (⟨some d,.call ⟨.value x,xs,tys⟩,ty',pos,after,gd⟩::l) k R hs:=by
 intro a w ha hm
 simp only[wpList]
 rw[fP (o:=⟨some d,.call ⟨.value x,xs,tys⟩,ty',pos,after,gd⟩) ha hg,if_pos rfl]
 refine Or.inl ?_
 unfold Oper.wp
 have he:(execOp a.eval ⟨some d,.call ⟨.value x,xs,tys⟩,ty',pos,after,gd⟩).run X.P w= .ok (.enter f ⟨vs++caps⟩) w:=by
  simp only[execOp,resolve,ha.ev hx,Deferred.ofValue,fZ ha hxs]
  have e2:((⟨[]⟩:Array Value)++(⟨vs⟩:Array Value))++(⟨caps⟩:Array Value)=⟨vs++caps⟩:=by apply Array.ext';simp
  have e3:(⟨[]⟩:Array Value)++(⟨vs⟩:Array Value)=⟨vs⟩:=by apply Array.ext';simp
  rw[e3]at e2
  rw[e3]
  simp only[Sem.run_bind,Sem.run_pure,Result.andThen_ok,invoke,e2,hc]
 rw[he,Oper.upon_enter]
 refine(hF w hm).mono ?_
 rintro e w' ⟨v,hs',rfl,hN,hM⟩
 exact h v hs' hN _ _ (ha.put hdn v) hM
theorem OT.mo{x:Operand}{lo hi:Option Operand}{s:ByteArray}{vl vh:Option Value}(L H:Nat)(hT:T.ok X.P)(ht:ty T t=some (.one .string))(hg:dX ops R gd=some true)(hx:ev R x=some (.string s))
 (hlo:lV R lo=some vl)(hhi:lV R hi=some vh)(hL:zK vl 0 L)(hH:zK vh s.size H)(h1:L<=H)(h2:H<=s.size)(hdn:Nat.ble (d+1) X.n=true)
 (h:OT X ops l k ((d,.string (s.extract L H))::R) hs):OT X ops (⟨some d,.slice t x lo hi none,ty',pos,after,gd⟩::l) k R hs:=by
 have hu:=(hT.ty ht).1
 refine OT.value hg rfl hdn fun a w ha hm=>⟨_,hs,w,?_,hm,h⟩
 simp only[execOp,ha.ev hx,ha.lV hlo,ha.lV hhi,Option.map_none]
 rcases hL with⟨rfl,rfl⟩|⟨k1,rfl⟩<;>rcases hH with⟨rfl,rfl⟩|⟨k2,rfl⟩
 . simp[Instr.sliceAt,run_underlying hu,Instr.slice,Instr.sliceBounds]
 . simp[Instr.sliceAt,run_underlying hu,Instr.slice,Instr.sliceBounds,Instr.sliceBound,asIntOf,h2]
 . simp[Instr.sliceAt,run_underlying hu,Instr.slice,Instr.sliceBounds,Instr.sliceBound,asIntOf,h1]
 . simp[Instr.sliceAt,run_underlying hu,Instr.slice,Instr.sliceBounds,Instr.sliceBound,asIntOf,h1,h2]
theorem OT.C2{x ix:Operand}{n:Nat}{cs:List Value}{kk:IntKind}{i:Int}{v:Value}{de:TypeDesc}(hT:T.ok X.P)(ht:ty T t=some (.arr n e 1))(Vd:ty T e=some (.one de))(hg:dX ops R gd=some true)
 (hx:ev R x=some (.agg ⟨cs⟩))(zn:ev R ix=some (.int kk i))(h0:0<=i)(hn:cs.length=n)(hi:cs[i.toNat]? =some v)(hdn:Nat.ble (d+1) X.n=true)
 (h:OT X ops l k ((d,v)::R) hs):OT X ops (⟨some d,.index t x ix,ty',pos,after,gd⟩::l) k R hs:=by
 have hu:=(hT.ty ht).1
 have hsz:=(hT.ty ht).2.1
 have RA:=(hT.ty Vd).2.1
 have hil:i.toNat<cs.length:=(List.getElem?_eq_some_iff.1 hi).1
 have hlt:i<(n:Int):=by omega
 refine OT.value hg rfl hdn fun a w ha hm=>⟨v,hs,w,?_,hm,h⟩
 simp only[execOp,ha.ev hx,ha.ev zn]
 have hi':(⟨cs⟩:Array Value)[i.toNat]? =some v:=by simpa using hi
 simp[Instr.index,asIntOf,run_underlying hu,h0,hlt,hsz,part,RA,hi]
theorem OT.aT{x ix:Operand}{n b o:Nat}{kk:IntKind}{i:Int}(hT:T.ok X.P)(ht:ty T t=some (.arr n e sz))(hg:dX ops R gd=some true)
 (hx:ev R x=some (.pointer (some ⟨b,o,none⟩)))(zn:ev R ix=some (.int kk i))(h0:0<=i)(hi:i<n)(hdn:Nat.ble (d+1) X.n=true)
 (h:OT X ops l k ((d,.pointer (some ⟨b,o+i.toNat*sz,none⟩))::R) hs):OT X ops (⟨some d,.indexAddr t x ix,ty',pos,after,gd⟩::l) k R hs:=by
 have hu:=(hT.ty ht).1
 have hsz:=(hT.ty ht).2.1
 refine OT.value hg rfl hdn fun a w ha hm=>⟨_,hs,w,?_,hm,h⟩
 simp only[execOp,ha.ev hx,ha.ev zn]
 simp[Instr.indexAt,asIntOf,run_underlying hu,Instr.sureAddr,h0,hi,hsz,bX]
theorem jk{P:Program}{enc:UInt8->List Value}(eZ:∀c,enc c=[.int .u8 c.toNat]){v:Value}{xs:List UInt8}(hrow:Row enc 1 hs v xs){w:World}(hm:Mem hs w):
 (Conv.bytesToString v).run P w= .ok (.string ⟨⟨xs⟩⟩) w:=by
 rcases hrow.2 with⟨⟨a,rfl⟩,rfl⟩|⟨b,o,cap,cs,t,fr,rfl,hb,hc,hr⟩
 . cases a<;>rfl
 . have he:enc=fun c=>[Value.int .u8 c.toNat]:=funext eZ
   have hmap:xs.flatMap enc=xs.map fun c=>Value.int .u8 c.toNat:=by
    rw[he,List.map_eq_flatMap]
   have hlo:=hm.loadCells (P:=P) hb hr (by rw[hmap];simp)
   rw[Nat.mul_one]at hlo
   have xz:∀(l:List UInt8) (s:List UInt8),(l.map fun c=>(c.toNat:Int)).foldl (fun(r:ByteArray) n=>r.push (UInt8.ofNat n.toNat)) ⟨⟨s⟩⟩=⟨⟨s++l⟩⟩:=by
    intro l
    induction l with
    |nil=>intro s;simp
    |cons c l ih=>
     intro s
     simp only[List.map_cons,List.foldl_cons,Int.toNat_natCast,UInt8.ofNat_toNat]
     have:(⟨⟨s⟩⟩:ByteArray).push c=⟨⟨s++[c]⟩⟩:=by
      unfold ByteArray.push;simp
     rw[this,ih]
     simp
   have:=run_bytesToString (P:=P) w ⟨b,o,none⟩ xs.length cap (xs.map fun c=>(c.toNat:Int)) (by
    rw[hlo,hmap]
    congr 1
    simp[Function.comp_def])
   rw[this]
   have h0:=xz xs []
   rw[List.nil_append]at h0
   rw[<-h0]
   rfl
theorem OT.vX{enc:UInt8->List Value}(eZ:∀c,enc c=[.int .u8 c.toNat]){s t' e:Nat}{x:Operand}{v:Value}{xs:List UInt8}(hT:T.ok X.P)(hs':ty T s=some (.slice e 1))(he:ty T e=some (.one (.int .u8)))(ht:ty T t'=some (.one .string))
 (hg:dX ops R gd=some true)(hx:ev R x=some v)(hrow:Row enc 1 hs v xs)(hdn:Nat.ble (d+1) X.n=true)
 (h:OT X ops l k ((d,.string ⟨⟨xs⟩⟩)::R) hs):OT X ops (⟨some d,.convert s t' x,ty',pos,after,gd⟩::l) k R hs:=by
 refine OT.value hg rfl hdn fun a w ha hm=>⟨_,hs,w,?_,hm,h⟩
 obtain⟨a0,c0,hv⟩:=hrow.len
 have h1:=jk (P:=X.P) eZ hrow hm
 simp only[execOp,ha.ev hx]
 rw[hv]at h1⊢
 rw[Sem.run_bind,run_convert_bytes_string w s t' e a0 xs.length c0 (hT.ty hs').1 (hT.ty he).1 (hT.ty ht).1,h1]
 rfl
theorem OT.Bk(hT:T.ok X.P){o:Oper}(v:Value)(hg:dX ops R o.guard=some true)(hd:o.dst=some d)(hv:D6 T R o.op=some v)(hdn:Nat.ble (d+1) X.n=true)
 (h:OT X ops l k ((d,v)::R) hs):OT X ops (o::l) k R hs:=
 OT.value hg hd hdn fun _ w ha hm=>⟨v,hs,w,zT hT ha hv w,hm,h⟩
theorem OT.shl{x y:Operand}{yt:Nat}{kx ky:IntKind}{a b:Int}(hT:T.ok X.P)(hg:dX ops R gd=some true)(hx:ev R x=some (.int kx a))(hy:ev R y=some (.int ky b))(hb:0<=b)(hdn:Nat.ble (d+1) X.n=true)
 (h:OT X ops l k ((d,.int kx (kx.wrap (a*2^min b.toNat kx.bits)))::R) hs):OT X ops (⟨some d,.binOp .shl t x y yt,ty',pos,after,gd⟩::l) k R hs:=
 OT.Bk hT _ hg rfl (by simp only[D6,hx,hy,bin];rw[if_neg (by omega)]) hdn h
theorem OT.shr{x y:Operand}{yt:Nat}{kx ky:IntKind}{a b:Int}(hT:T.ok X.P)(hg:dX ops R gd=some true)(hx:ev R x=some (.int kx a))(hy:ev R y=some (.int ky b))(hb:0<=b)(hdn:Nat.ble (d+1) X.n=true)
 (h:OT X ops l k ((d,.int kx (a.fdiv (2^min b.toNat kx.bits)))::R) hs):OT X ops (⟨some d,.binOp .shr t x y yt,ty',pos,after,gd⟩::l) k R hs:=
 OT.Bk hT _ hg rfl (by simp only[D6,hx,hy,bin];rw[if_neg (by omega)]) hdn h
theorem OT.quo{x y:Operand}{yt:Nat}{kx:IntKind}{a b:Int}(hT:T.ok X.P)(hg:dX ops R gd=some true)(hx:ev R x=some (.int kx a))(hy:ev R y=some (.int kx b))(hb:b≠0)(hdn:Nat.ble (d+1) X.n=true)
 (h:OT X ops l k ((d,.int kx (kx.wrap (a.tdiv b)))::R) hs):OT X ops (⟨some d,.binOp .quo t x y yt,ty',pos,after,gd⟩::l) k R hs:=
 OT.Bk hT _ hg rfl (by simp only[D6,hx,hy,bin,Ho,if_true];rw[if_neg hb]) hdn h
theorem OT.rem{x y:Operand}{yt:Nat}{kx:IntKind}{a b:Int}(hT:T.ok X.P)(hg:dX ops R gd=some true)(hx:ev R x=some (.int kx a))(hy:ev R y=some (.int kx b))(hb:b≠0)(hdn:Nat.ble (d+1) X.n=true)
 (h:OT X ops l k ((d,.int kx (a.tmod b))::R) hs):OT X ops (⟨some d,.binOp .rem t x y yt,ty',pos,after,gd⟩::l) k R hs:=
 OT.Bk hT _ hg rfl (by simp only[D6,hx,hy,bin,Ho,if_true];rw[if_neg hb]) hdn h
theorem OT.eI(t:Nat){u v:Value}(hu:look R t=some u)(e:u=v)(h:OT X ops l k ((t,v)::R) hs):OT X ops l k R hs:=
 fun a w ha hm=>h a w ⟨ha.size,ha.defers,fun x y hl=>by
  rw[eN]at hl
  by_cases e':t=x
  . subst e';rw[if_pos rfl]at hl;subst e;exact ha.jX _ _ (hu.trans hl)
  . rw[if_neg e']at hl;exact ha.jX x y hl⟩ hm
theorem TT.eI{c:Code}(t:Nat){u v:Value}(hu:look R t=some u)(e:u=v)(h:TT X c k ((t,v)::R) hs):TT X c k R hs:=
 fun a w ha hm=>h a w ⟨ha.size,ha.defers,fun x y hl=>by
  rw[eN]at hl
  by_cases e':t=x
  . subst e';rw[if_pos rfl]at hl;subst e;exact ha.jX _ _ (hu.trans hl)
  . rw[if_neg e']at hl;exact ha.jX x y hl⟩ hm
end
end Go.Sx
end
section
namespace Go.Sx
open Go
abbrev aB:UInt8->List Value:=fun c=>[.int .u8 c.toNat]
abbrev cM:Int->List Value:=fun n=>[.int .i64 n]
abbrev ij:ByteArray->List Value:=fun s=>[.string s]
abbrev HM:Bool->List Value:=fun b=>[.bool b]
abbrev JX(l:List UInt8):ByteArray:=⟨⟨l⟩⟩
theorem Li(xs:List UInt8):dy (xs.flatMap aB)=true:=sI (fun _=>rfl) xs
theorem wrap_u8(n:Nat):IntKind.u8.wrap (n:Int)=((UInt8.ofNat n).toNat:Int):=by
 rw[IntKind.wrap_u8,UInt8.toNat_ofNat'];omega
theorem wrap_i64{n:Int}(h: -9223372036854775808<=n)(h2:n<=9223372036854775807):IntKind.i64.wrap n=n:=IntWalk.i64_in n ⟨h,h2⟩
theorem wrap_u64{n:Int}(h:0<=n)(h2:n<=18446744073709551615):IntKind.u64.wrap n=n:=IntWalk.u64_in n ⟨h,h2⟩
theorem int_eq{k:IntKind}{a b:Int}(h:a=b):Value.int k a= .int k b:=by rw[h]
theorem Au{cs:List Value}{o:Nat}(v:Value)(h:o<cs.length):splice cs o [v]=cs.set o v:=by
 unfold splice
 have:=list_seg_step cs o v [] (by simp only[List.length_nil];omega)
 simp only[List.length_nil,Nat.zero_add,List.length_cons,List.append_nil,Nat.add_zero]at this⊢
 rw[<-this,List.take_append_drop]
end Go.Sx
end
section
namespace Go.Sx
open Go
variable[au]
section
variable{X:Cx}{k:dx}{R:ee}{hs:List Chunk}{ops:Array Oper}{l:List Oper}{T:aE}{d ty':Nat}{pos:String}{after:Array Edge}{gd:Option (Nat×Bool)}
 {α:Type}{enc:α->List Value}{sz e t:Nat}
omit [au] in
theorem Own.take{a:Option Addr}{n c:Nat}{xs:List α}{H:Chunk}(h:Own enc sz e (.slice a n c) xs H){m:Nat}(hm:m<=xs.length):Own enc sz e (.slice a m c) (xs.take m) H:=by
 refine⟨fun x hx=>h.1 x (List.mem_of_mem_take hx),?_⟩
 rcases h.2 with⟨hv,hx,hH⟩|⟨b,cap,pre,sp,fr,hv,hH,hc,hsp,qV⟩
 . injection hv with e1 e2 e3
   subst hx
   have:m=0:=by simpa using hm
   subst this;subst e1;subst e3
   exact .inl ⟨rfl,rfl,hH⟩
 . injection hv with e1 e2 e3
   subst e1;subst e3
   have hl:(xs.take m).length=m:=by rw[List.length_take];omega
   have hsplit:xs.flatMap enc=(xs.take m).flatMap enc++(xs.drop m).flatMap enc:=by rw[<-List.flatMap_append,List.take_append_drop]
   have Mm:((xs.drop m).flatMap enc).length=(xs.length-m)*sz:=by rw[aH (fun x hx=>h.1 x (List.mem_of_mem_drop hx)),List.length_drop]
   refine .inr ⟨b,c,pre,(xs.drop m).flatMap enc++sp,fr,by rw[hl],?_,by omega,?_,?_⟩
   . rw[hH,hsplit];simp only[List.append_assoc]
   . rw[hl,List.length_append,Mm,show c-m=(xs.length-m)+(c-xs.length)from by omega,Nat.add_mul]
     omega
   . rw[hsplit]at qV
     simpa only[List.append_assoc]using qV
omit [au] in
theorem Own.cap{a:Option Addr}{n c:Nat}{xs:List α}{H:Chunk}(h:Own enc sz e (.slice a n c) xs H):n=xs.length/\xs.length<=c:=by
 rcases h.2 with⟨hv,hx,hH⟩|⟨b,cap,pre,sp,fr,hv,hH,hc,hsp,qV⟩
 . injection hv with e1 e2 e3
   subst hx
   exact⟨by simpa using e2,by simp⟩
 . injection hv with e1 e2 e3
   exact⟨e2,by omega⟩
theorem OT.b_{x:Operand}{lo hi:Option Operand}{a:Option Addr}{n c:Nat}{vl vh:Option Value}(L H:Nat)(hT:T.ok X.P)(ht:ty T t=some (.slice e sz))(hg:dX ops R gd=some true)(hx:ev R x=some (.slice a n c))
 (hlo:lV R lo=some vl)(hhi:lV R hi=some vh)(hL:zK vl 0 L)(hH:zK vh n H)(h1:L<=H)(h2:H<=c)(hdn:Nat.ble (d+1) X.n=true)
 (h:OT X ops l k ((d,.slice (if c=L then a else a.map (·.add (L*sz))) (H-L) (c-L))::R) hs):OT X ops (⟨some d,.slice t x lo hi none,ty',pos,after,gd⟩::l) k R hs:=by
 refine OT.value hg rfl hdn fun ac w ha hm=>⟨_,hs,w,?_,hm,h⟩
 simp only[execOp,ha.ev hx,ha.lV hlo,ha.lV hhi,Option.map_none]
 have:=jP (hT.ty ht).1 (hT.ty ht).2.1 a n c vl vh L H hL hH h1 h2 w
 simp[this]
theorem OT.jI{x y:Operand}{a:Option Addr}{c:Nat}{ky:IntKind}{xs:List α}{H:Chunk}(h':Nat)(hT:T.ok X.P)(ht:ty T t=some (.slice e sz))(hg:dX ops R gd=some true)(hx:ev R x=some (.slice a xs.length c))
 (hy:ev R y=some (.int ky h'))(hown:Own enc sz e (.slice a xs.length c) xs H)(h2:h'<=xs.length)(hdn:Nat.ble (d+1) X.n=true)
 (h:Own enc sz e (.slice a h' c) (xs.take h') H->OT X ops l k ((d,.slice a h' c)::R) hs):OT X ops (⟨some d,.slice t x none (some y) none,ty',pos,after,gd⟩::l) k R hs:=by
 have hc:=hown.cap.2
 refine OT.b_ 0 h' hT ht hg hx (vl:=none) rfl (vh:=some (.int ky h')) (by simp only[lV,hy]) (.inl ⟨rfl,rfl⟩) (.inr ⟨_,rfl⟩) (by omega) (by omega) hdn ?_
 have e1:(if c=0 then a else a.map (·.add (0*sz)))=a:=by
  split
  . rfl
  . cases a<;>simp[Addr.add]
 rw[e1,Nat.sub_zero,Nat.sub_zero]
 exact h (hown.take h2)
theorem OT.slice3{x y z u:Operand}{v:Value}{xs:List α}{ky kz ku:IntKind}(L H M:Nat)(hT:T.ok X.P)(ht:ty T t=some (.slice e sz))(hg:dX ops R gd=some true)(hx:ev R x=some v)(hrow:Row enc sz hs v xs)
 (hy:ev R y=some (.int ky L))(hz:ev R z=some (.int kz H))(hu:ev R u=some (.int ku M))(h1:L<=H)(h2:H<=M)(h3:M<=xs.length)(hdn:Nat.ble (d+1) X.n=true)
 (h:∀v',OT X ops l k ((d,v')::R) hs):OT X ops (⟨some d,.slice t x (some y) (some z) (some u),ty',pos,after,gd⟩::l) k R hs:=by
 have hun:=(hT.ty ht).1
 have hsz:=(hT.ty ht).2.1
 obtain⟨a0,c0,hv⟩:=hrow.len
 subst hv
 have hc:xs.length<=c0:=by
  rcases hrow.2 with⟨hv,hx⟩|⟨b,o,cap,cs,t',fr,hv,_,hc,_⟩
  . subst hx;simp
  . injection hv with e1 e2 e3;omega
 have hM:M<=c0:=by omega
 refine OT.value hg rfl hdn fun ac w ha hm=>⟨_,hs,w,?_,hm,h (.slice (if M=L then a0 else a0.map (·.add (L*sz))) (H-L) (M-L))⟩
 simp only[execOp,ha.ev hx,Option.map_some,ha.ev hy,ha.ev hz,ha.ev hu]
 simp[Instr.sliceAt,run_underlying hun,Instr.slice,Instr.sliceBounds,Instr.sliceBound,asIntOf,h1,h2,hM,hsz w]
theorem OT.Lj{o:Oper}(hg:dX ops R o.guard=some true)(hd:o.dst=none)
 (h:∀a w,Fits X.n R a->Mem hs w->∃v hs' w',(execOp a.eval o).run X.P w= .ok (.value v) w'/\Mem hs' w'/\OT X ops l k R hs'):OT X ops (o::l) k R hs:=by
 intro a w ha hm
 obtain⟨v,hs',w',hr,hm',hk⟩:=h a w ha hm
 simp only[wpList]
 rw[fP ha hg,if_pos rfl]
 refine Or.inl ?_
 unfold Oper.wp
 rw[hr,Oper.upon_value,hd]
 exact hk _ _ ha hm'
theorem OT.fJ{x:Operand}{a:Option Addr}{n c h':Nat}{xs:List α}{H:Chunk}{r:List Chunk}{z:Value}(he:Elem X.P t e sz)(hz:∀w,(zeroValue e).run X.P w= .ok z w)(hzs:z.cells.size=sz)(nS:dy z.cells.toList=true)(hn:n=xs.length)(hg:dX ops R gd=some true)
 (hx:ev R x=some (.slice (if c=n then a else a.map (·.add (n*sz))) (h'-n) (c-n)))
 (hp:aR hs H r)(hown:Own enc sz e (.slice a n c) xs H)(h2:n<=h')(h3:h'<=c)
 (h:∀H',Own enc sz e (.slice a n c) xs H'->OT X ops l k R (H'::r)):OT X ops (⟨none,.call ⟨.builtin .clear,#[x],#[t]⟩,ty',pos,after,gd⟩::l) k R hs:=by
 subst hn
 refine OT.Lj hg rfl fun ac w ha hm=> ?_
 have hm:=hm.pull hp
 have ER:∀w',(Builtin.clear_ #[t] ty' #[.slice (if c=xs.length then a else a.map (·.add (xs.length*sz))) (h'-xs.length) (c-xs.length)]).run X.P w= .ok (.tuple #[]) w'->
  (execOp ac.eval ⟨none,.call ⟨.builtin .clear,#[x],#[t]⟩,ty',pos,after,gd⟩).run X.P w= .ok (.value (.tuple #[])) w':=by
  intro w' hw
  simp[execOp,resolve,ha.ev hx,invoke,builtin,hw]
 rcases hown.2 with⟨hv,hxs,hH⟩|⟨b,cap,pre,sp,fr,hv,hH,hc,hsp,qV⟩
 . injection hv with e1 e2 e3
   subst hxs;subst e1;subst e3
   have:h'=0:=by simpa using h3
   subst this
   refine⟨_,_,w,ER w ?_,hm,h H hown⟩
   simp[Builtin.clear_,run_underlying he.BL]
 . injection hv with e1 e2 e3
   subst e1;subst e3
   by_cases h0:h'-xs.length=0
   . refine⟨_,_,w,ER w ?_,hm,h H hown⟩
     rw[h0]
     simp only[Builtin.clear_,List.getElem?_toArray,List.getElem?_cons_zero]
     rw[Sem.run_bind,run_underlying he.BL]
     by_cases ki:c=xs.length
     . rw[if_pos ki];rfl
     . rw[if_neg ki];rfl
   . have ki:¬c=xs.length:=by omega
     have nR:(xs.flatMap enc).length=xs.length*sz:=aH hown.1
     have hzl:(Builtin.zeroCells z.cells (h'-xs.length)).toList.length=(h'-xs.length)*sz:=by simp[Builtin.zeroCells,hzs]
     have hfit:(h'-xs.length)*sz<=sp.length:=Nat.le_trans (Nat.mul_le_mul_right _ (by omega)) hsp
     have Ve:dy (Builtin.zeroCells z.cells (h'-xs.length)).toList=true:=by
      unfold dy at nS⊢
      rw[List.all_eq_true]at nS⊢
      intro u hu
      simp only[Builtin.zeroCells,Array.toList_map,List.mem_map]at hu
      obtain⟨i,hi,rfl⟩:=hu
      simp only[Array.toList_range,List.mem_range]at hi
      have hpos:0<z.cells.size:=by
       rcases Nat.eq_zero_or_pos z.cells.size with h|h
       . rw[h]at hi;simp at hi
       . exact h
      have hlt:i%z.cells.size<z.cells.size:=Nat.mod_lt _ hpos
      refine nS _ ?_
      rw[getElem!_pos z.cells _ hlt]
      simp
     subst hH
     obtain⟨w',hr,hm'⟩:=hm.storeCells (P:=X.P) (o:=pre.length+xs.length*sz) (Builtin.zeroCells z.cells (h'-xs.length)).toList 0 (by rw[hzl];simp[nR];omega) Ve qV
     have Nr:splice (pre++xs.flatMap enc++sp) (pre.length+xs.length*sz+0) (Builtin.zeroCells z.cells (h'-xs.length)).toList=pre++xs.flatMap enc++((Builtin.zeroCells z.cells (h'-xs.length)).toList++sp.drop ((h'-xs.length)*sz)):=by
      simp only[splice,Nat.add_zero]
      rw[hzl,<-nR,<-List.length_append,List.take_left,<-List.drop_drop,List.drop_left]
      simp
     rw[Nr]at hm'
     refine⟨_,_,w',ER w' ?_,hm',h _ ⟨hown.1,.inr ⟨b,c,pre,(Builtin.zeroCells z.cells (h'-xs.length)).toList++sp.drop ((h'-xs.length)*sz),fr,rfl,rfl,hc,?_,?_⟩⟩⟩
     . rw[if_neg ki]
       simp only[Builtin.clear_,List.getElem?_toArray,List.getElem?_cons_zero,Option.map_some,bX]
       rw[Sem.run_bind,run_underlying he.BL]
       simp only[Result.andThen_ok]
       obtain⟨m,hm0⟩:∃m,h'-xs.length=m+1:=⟨h'-xs.length-1,by omega⟩
       rw[hm0]at hr⊢
       rw[Sem.run_bind,hz]
       simp only[Result.andThen_ok]
       rw[Sem.run_bind,hr]
       rfl
     . rw[List.length_append,hzl,List.length_drop];omega
     . refine qV.imp id (fun hh=> ?_)
       simp only[List.length_append,hzl,List.length_drop,nR]at hh⊢
       omega
end
end Go.Sx
end
section
namespace Go.Sx
open Go Go.ChangeShapes Go.WideShapes
def all(w:World):Chunk:=w.heap.toList.zipIdx.map fun p=>(p.2,p.1)
abbrev outer(w:World):au:=⟨w.os,w.output⟩
theorem vY{w:World}{b:Nat}{o:Obj}:(b,o)∈all w↔w.heap[b]? =some o:=by
 unfold all
 rw[List.mem_map]
 constructor
 . rintro⟨⟨o',b'⟩,h,e⟩
   simp only[Prod.mk.injEq]at e
   obtain⟨rfl,rfl⟩:=e
   rw[List.mem_zipIdx_iff_getElem?]at h
   rw[<-Array.getElem?_toList]
   exact h
 . intro h
   refine⟨(o,b),?_,rfl⟩
   rw[List.mem_zipIdx_iff_getElem?]
   rw[<-Array.getElem?_toList]at h
   exact h
theorem HN(w:World): @Mem (outer w) [all w] w:=by
 letI:=outer w
 refine⟨?_,?_,rfl,rfl⟩
 . simp only[List.flatten_cons,List.flatten_nil,List.append_nil]
   unfold all
   rw[List.map_map]
   have e:(Prod.fst∘fun p:Obj×Nat=>(p.2,p.1))=Prod.snd:=rfl
   rw[e,List.zipIdx_map_snd]
   exact List.nodup_range'
 . intro b o h
   simp only[List.flatten_cons,List.flatten_nil,List.append_nil]at h
   exact vY.1 h
theorem HO{w:World}{b:Nat}{o:Obj}(h:w.heap[b]? =some o):Has [all w] b o:= .here (vY.2 h)
structure Old(w w':World):Prop where
 os:w'.os=w.os
 out:w'.output=w.output
 heap:∀b,b<w.heap.size->w'.heap[b]? =w.heap[b]?
theorem Old.of{w w':World}(h: @Mem (outer w) [all w] w'):Old w w':=by
 letI:=outer w
 refine⟨h.outer.1,h.outer.2,fun b hb=> ?_⟩
 rw[Array.getElem?_eq_getElem hb]
 exact h.has b _ (by simp only[List.flatten_cons,List.flatten_nil,List.append_nil];exact vY.2 (Array.getElem?_eq_getElem hb))
theorem r6{P:Program}{f:Nat}{vs:List Value}{w:World}(h: @aA (outer w) P f vs [all w] fun v' hs'=>v'= .bool true/\[all w]=hs'):
 Calls P f ⟨vs⟩ w fun e w'=>e= .returned (.bool true)/\Old w w':=by
 letI:=outer w
 refine(h w (HN w)).mono ?_
 rintro e w' ⟨v,hs',rfl,⟨rfl,rfl⟩,hm⟩
 exact⟨rfl,.of hm⟩
theorem Old.kept{w w':World}(h:Old w w')(may:MemPlace->Prop):w.keptBut w' may:=by
 refine⟨h.os,h.out,fun i hi=> ?_⟩
 rw[h.heap i hi]
 cases w.heap[i]?with
 |none=>rfl
 |some o=>cases o with
  |cells c t fr=>exact⟨rfl,rfl,rfl,fun _ _=>rfl⟩
  |map es clock=>exact .inr ⟨rfl,rfl⟩
  |_=>rfl
theorem Old.frozen{w w':World}(h:Old w w')(a:Addr)(ha:a.block<w.heap.size):w'.frozen? a=w.frozen? a:=by
 unfold World.frozen?
 rw[h.heap _ ha]
section
variable{H:Type}{enc:TypeId×Value->H}{P:Program}
theorem lJ{f:Func}{s:ChangeSpec}{apart fresh handsOn again:Bool}{W W':World}{args:Array Value}{v:Value}{ds gs:List (DataW H)}{before pa pv:List MemPlace}
 (hW:DataW.Whole enc P f.params.toList s.vars apart W args.toList ds gs before)
 (hres:∀(b:Nat) (sp:Nat->Bool) (hd:Bool),DataW.TrodAll enc P W' b sp hd f.resultTypes.toList (v.resultList f.resultTypes.size) (s.fn H (ds++gs)).results [])
 (hargs:∀sp:Nat->Bool,(∀p∈before,sp p.block=true)->DataW.TrodAll enc P W' 0 sp true f.params.toList args.toList (s.fn H (ds++gs)).args pa)
 (hvars:∀sp:Nat->Bool,(∀p∈before,sp p.block=true)->DataW.TrodVars enc P W' sp s.vars (s.fn H (ds++gs)).vars pv)
 (hps:before=pa++pv)(hO:Old W W')
 (hok:∀(j:Nat) (t:TypeId) (r:Value),f.resultTypes[j]? =some t->(v.resultList f.resultTypes.size)[j]? =some r->Value.okWide P W' .any 0 t r):
 s.post enc P f apart fresh handsOn again W args v W':=by
 have hlt:=hW.lt
 have hold:∀p∈before,(fun b=>decide (b<W.heap.size)) p.block=true:=fun p hp=>by simpa using hlt p hp
 refine⟨ds,gs,before,[],pa,pv,hW,hres _ _ _,hargs _ hold,hvars _ hold,World.keptBut_mono (fun p hp=>⟨hp,?_⟩) (hO.kept _),fun _=> ?_⟩
 . rw[hps,List.mem_append]at hp
   exact Or.inr hp
 . obtain⟨_,_,_,_,_,hz,hn⟩:=hW
   refine⟨hok,_,_,([]++pa)++pv,⟨[]++pa,pv,trodAll_append (hargs _ (fun _ _=>rfl)) (hres _ _ _),hvars _ (fun _ _=>rfl),rfl,?_,?_⟩,?_⟩
   . intro b off hp
     have hm:MemPlace.cell b off∈before:=by rw[hps];simpa using hp
     rw[hO.frozen _ (hlt _ hm)]
     exact hz b off hm
   . intro ha
     have:=hn ha
     rw[hps]at this
     simpa using this
   . intro p hp _
     rw[hps]
     simpa using hp
end
end Go.Sx
end
section
namespace Go.Sx
open Go Go.ChangeShapes Go.WideShapes
section
variable{H:Type}{enc:TypeId×Value->H}{P:Program}{w:World}{base:Nat}{spare:Nat->Bool}{held:Bool}{α:Type}
theorem pieces{e:α->List Value}{Q:α->Prop}{sz:Nat}(cs:List Value)(o:Nat):∀n:Nat,(∀i,i<n->∃x,(cs.drop (o+i*sz)).take sz=e x/\Q x)->
 ∃xs:List α,xs.length=n/\(cs.drop o).take (n*sz)=xs.flatMap e/\∀x∈xs,Q x:=by
 intro n
 induction n with
 |zero=>intro _;exact⟨[],rfl,by simp,by simp⟩
 |succ n ih=>
  intro h
  obtain⟨xs,hl,hx,hq⟩:=ih fun i hi=>h i (by omega)
  obtain⟨x,hx1,nh⟩:=h n (by omega)
  refine⟨xs++[x],by simp[hl],?_,?_⟩
  . rw[Nat.succ_mul,List.take_add,hx,List.drop_drop,hx1]
    simp
  . intro y hy
    rcases List.mem_append.1 hy with hy|hy
    . exact hq y hy
    . rw[List.mem_singleton]at hy;subst hy;exact nh
def Reads(P:Program)(t:TypeId)(e:α->List Value)(Q:α->Prop):Prop:=
 ∀{H:Type} {enc:TypeId×Value->H} {w:World} {base:Nat} {spare:Nat->Bool} {held:Bool} {n:Nat} {cs:List Value} {x:DataW H×List MemPlace},
  DataW.trod enc P w base spare held n t cs=some x->∃a:α,cs=e a/\Q a
theorem C3{t:TypeId}(ht:P.underlying t=some (.int .i64)):Reads P t cM fun n=> -9223372036854775808<=n/\n<=9223372036854775807:=by
 intro H enc w base spare held n cs x h
 obtain⟨m,rfl,_,hw⟩:=DataW.trod_int ht h
 simp only[Lit.wf,Bool.and_eq_true,decide_eq_true_eq]at hw
 exact⟨m,rfl,hw⟩
theorem FA{t:TypeId}(ht:P.underlying t=some (.int .u8)):Reads P t aB fun _=>True:=by
 intro H enc w base spare held n cs x h
 obtain⟨m,rfl,_,hw⟩:=DataW.trod_int ht h
 simp only[Lit.wf,Bool.and_eq_true,decide_eq_true_eq]at hw
 have h0:0<=m:=hw.1
 have h1:m<=255:=hw.2
 refine⟨UInt8.ofNat m.toNat,?_,trivial⟩
 have:((UInt8.ofNat m.toNat).toNat:Int)=m:=by rw[UInt8.toNat_ofNat'];omega
 unfold aB
 rw[this]
theorem wC{t:TypeId}(ht:P.underlying t=some .string):Reads P t ij fun s=>s.size<=maxLen:=by
 intro H enc w base spare held n cs x h
 cases n with
 |zero=>simp[DataW.trod]at h
 |succ n=>
  unfold DataW.trod at h
  rw[ht]at h
  split at h<;>simp_all
theorem C4{a:Addr}{n:Nat}{cs:List Value}{c:Array Value}{el:TypeId}{fr:Nat×Nat}(h:w.cells? base a n=some cs)(hs:a.spot=none)(hb:w.heap[a.block]? =some (.cells c el fr)):
 (c.toList.drop a.off).take n=cs:=by
 obtain⟨_,hl,hc⟩:=World.cells?_some h
 apply List.ext_getElem?
 intro j
 by_cases hj:j<n
 . rw[List.getElem?_take,if_pos hj,List.getElem?_drop,<-hc j hj]
   have e:w.cell? (a.add j)=c[a.off+j]? :=by
    obtain⟨b,o,sp⟩:=a
    dsimp only at hs hb⊢
    subst hs
    simp only[World.cell?,bX,hb]
    rfl
   rw[e,Array.getElem?_toList]
 . rw[List.getElem?_eq_none (by rw[List.length_take];omega),List.getElem?_eq_none (by omega)]
theorem C5{r:Reach}{b0:Nat}{a:Addr}{e:TypeId}{n:Nat}(h:w.has P r b0 a e n):a.spot=none/\∃c el fr,w.heap[a.block]? =some (.cells c el fr):=by
 obtain⟨_,hs,row,cells,hsh,_⟩:=h
 refine⟨hs,?_⟩
 unfold World.shape? at hsh
 split at hsh
 . exact⟨_,_,_,by assumption⟩
 . cases hsh
theorem C6{t e':TypeId}{sz:Nat}{e:α->List Value}{Q:α->Prop}(ht:P.underlying t=some (.slice e'))(hs:P.cellsOf e'=sz)(he:Reads P e' e Q)
 {r:Reach}{b0:Nat}{v:Value}(hok:Cell.okWide P w r b0 t v){n:Nat}{x:DataW H×List MemPlace}(h:DataW.trod enc P w base spare held n t [v]=some x)(hlen:∀a,(e a).length=sz\/¬Q a):
 ∃xs:List α,Row e sz [all w] v xs/\xs.length<=maxLen/\∀a∈xs,Q a:=by
 rcases DataW.trod_slice ht h with⟨hv,_⟩|⟨a,len,cap,elems,rest,m,_,hv,_,_,hlc,kY,hel,hi,_⟩
 . injection hv with hv _
   subst hv
   exact⟨[],.nil,by simp,by simp⟩
 . injection hv with hv _
   subst hv
   unfold Cell.okWide at hok
   rw[ht]at hok
   dsimp only at hok
   unfold Cell.ok at hok
   rw[ht]at hok
   obtain⟨hsp,c,el,fr,hb⟩:=C5 hok.2.2
   obtain⟨b,o,sp⟩:=a
   dsimp only at hsp hb
   subst hsp
   obtain⟨xs,hx1,P7,PG⟩:=pieces (e:=e) (Q:=Q) (sz:=sz) c.toList o len fun i hlt=>by
    have h1:=hi i hlt
    rw[hs,List.getElem?_eq_getElem (by omega),Option.bind_eq_some_iff]at h1
    obtain⟨cs,h2,h3⟩:=h1
    obtain⟨y,rfl,hq⟩:=he h3
    rw[bX]at h2
    exact⟨y,C4 (a:=⟨b,o+i*sz,none⟩) h2 rfl hb,hq⟩
   refine⟨xs,⟨fun y hy=>(hlen y).resolve_right fun h=>h (PG y hy),.inr ⟨b,o,cap,c.toList,el,fr,by rw[hx1],HO hb,by omega,by rw[hx1];exact P7⟩⟩,by omega,PG⟩
theorem okWide_slice{r:Reach}{b0:Nat}{t e':TypeId}{v:Value}(ht:P.underlying t=some (.slice e'))(h:Value.okWide P w r b0 t v):Cell.okWide P w r b0 t v/\v.cells.toList=[v]:=by
 unfold Value.okWide at h
 rw[ht]at h
 refine⟨h,?_⟩
 cases v with
 |agg cs=>
  exfalso
  unfold Cell.okWide at h
  rw[ht]at h
  dsimp only at h
  unfold Cell.ok at h
  rw[ht]at h
  exact h
 |_=>rfl
theorem r7{t e':TypeId}{sz:Nat}{e:α->List Value}{Q:α->Prop}(ht:P.underlying t=some (.slice e'))(hs:P.cellsOf e'=sz)(he:Reads P e' e Q)
 {r:Reach}{b0:Nat}{v:Value}{d:DataW H}{p:List MemPlace}(hok:Value.okWide P w r b0 t v)(h:DataW.Trod enc P w 0 (fun _=>true) true t v d p)(hlen:∀a,(e a).length=sz\/¬Q a):
 ∃xs:List α,Row e sz [all w] v xs/\xs.length<=maxLen/\∀a∈xs,Q a:=by
 obtain⟨h1,h2⟩:=okWide_slice ht hok
 obtain⟨fuel,h⟩:=h
 rw[h2]at h
 exact C6 ht hs he h1 h hlen
def HP(P:Program)(w:World)(t:TypeId)(e:α->List Value)(Q:α->Prop):Prop:=
 ∀{H:Type} {enc:TypeId×Value->H} {base:Nat} {held:Bool} {n:Nat} {cs:List Value} {x:DataW H×List MemPlace},
  DataW.trod enc P w base (fun _=>true) held n t cs=some x->∃a:α,cs=e a/\Q a
theorem Reads.at{t:TypeId}{e:α->List Value}{Q:α->Prop}(h:Reads P t e Q):HP P w t e Q:=fun h'=>h h'
theorem jd{w':World}(hl:laidOutB P=true)(hO:Old w w'):∀{ts:List TypeId} {vs:List Value} {ds:List (DataW H)} {ps:List MemPlace},(∀t∈ts,P.readableRec t=true/\t<P.types.size)->
 DataW.TrodAll enc P w base (fun _=>true) true ts vs ds ps->(∀p∈ps,spare p.block=true)->(∀p∈ps,p.block<w.heap.size)->DataW.TrodAll enc P w' base spare true ts vs ds ps
 |[],[],[],_,_,h,_,_=>h
 |t::ts,v::vs,d::ds,ps,ht,⟨p,q,h1,h2,e⟩,hs,hp=>by
  subst e
  refine⟨p,q,?_,jd hl hO (fun t' h'=>ht t' (by simp[h'])) h2 (fun x hx=>hs x (by simp[hx])) (fun x hx=>hp x (by simp[hx])),rfl⟩
  refine WideElems.Trod_stays hl (ht t (by simp)).1 (ht t (by simp)).2 h1 (fun x hx=> ?_) (fun x hx=>hs x (by simp[hx]))
  have hb:=hO.heap x.block (hp x (by simp[hx]))
  cases x with
  |cell b o=>exact World.cell?_of_block (w:=w) hb
  |map b=>exact hb
 |[],_::_,_,_,_,h,_,_=>h.elim
 |[],[],_::_,_,_,h,_,_=>h.elim
 |_::_,[],_,_,_,h,_,_=>h.elim
 |_::_,_::_,[],_,_,h,_,_=>h.elim
end
end Go.Sx
end
