/- Part 5 of what the proofs of these rest on: All. -/
import Derived.Test.YtihpkgmfkbkffaaGreatYD
import Derived.Laws.FloatBits
set_option linter.unusedVariables false
set_option linter.unusedSimpArgs false
set_option linter.unusedSectionVars false
section
namespace Go.Pl
open Go Go.Sx
structure W3 where
 kind:Int
 c:Cell
 key:ByteArray
 to:ByteArray
theorem Cr{l:List Cell}{p:Cell->Bool}{j:Nat}{y:Cell}(h:l[j]? =some y)(hp:p y=true):(l.filter p)[((l.take j).filter p).length]? =some y/\((l.take (j+1)).filter p).length=((l.take j).filter p).length+1:=by
 obtain⟨hlt,rfl⟩:=List.getElem?_eq_some_iff.1 h
 constructor
 . conv=>lhs;arg 1;rw[<-List.take_append_drop j l,List.filter_append,List.drop_eq_getElem_cons hlt,List.filter_cons,if_pos hp]
   rw[List.getElem?_append_right (Nat.le_refl _),Nat.sub_self];rfl
 . rw[List.take_add_one,h,Option.toList_some,List.filter_append,List.length_append,List.filter_cons,if_pos hp];rfl
theorem tJ{l:List Cell}{p:Cell->Bool}{j:Nat}{y:Cell}(h:l[j]? =some y)(hp:p y=false):((l.take (j+1)).filter p).length=((l.take j).filter p).length:=by
 rw[List.take_add_one,h,Option.toList_some,List.filter_append,List.length_append,List.filter_cons,if_neg (by rw[hp];simp)];rfl
theorem z8(l:List Cell)(p:Cell->Bool)(j:Nat):((l.take j).filter p).length<=l.length:=Nat.le_trans (List.length_filter_le _ _) (by rw[List.length_take];omega)
theorem GN{l:List Cell}(h:C8 l)(k:ByteArray):((cq l k).getD noCell).val.f<2^64/\((cq l k).getD noCell).new.f<2^64:=by
 cases hg:cq l k with
 |none=>constructor<;>(show(0:Nat)<2^64;decide)
 |some c=>exact h c (List.mem_of_find?_eq_some (show l.find? (fun c=>decide (c.key=k))=some c from hg))
end Go.Pl
end
section
namespace Go.Pl
open Go Go.Sx
abbrev bE:=ByteArray×Vl
def bL(x:bE):List Value:= .string x.1::bA x.2
def iw(c:Cell)(t:Int):Vl:=if 0<t/\c.aV=t then c.new else c.val
def oF(l:List Cell)(t:Int)(k:ByteArray):Vl:=match cq l k with|some c=>iw c t|none=>aW
def dn(t:Int)(c:Cell):Option bE:=if(iw c t).kind=0 then none else some (c.key,iw c t)
def iJ(l:List Cell)(t:Int)(a b:ByteArray):List bE:=(l.filter fun c=>bu c.key a b).filterMap (dn t)
def ez(c:Cell):Cell×Bool:=if c.val.kind=0 then(noCell,false)else({c with aV:=0,new:=aW},true)
def cR(c:Cell):Cell×Bool:=ez (if 0<c.aV then{c with val:=c.new}else c)
def j0(p:Int->Bool)(how:Cell->Cell×Bool)(c:Cell):Option Cell:=if c.aV≠0/\p c.aV=true then(if(how c).2=true then some (how c).1 else none)else some c
def ue(l:List Cell)(p:Int->Bool)(how:Cell->Cell×Bool):List Cell:=l.filterMap (j0 p how)
def pV(l:List Cell)(p:Int->Bool):Nat:=(l.filter fun c=>decide (c.aV≠0/\p c.aV=true)).length
def AD(how:Cell->Cell×Bool):Prop:=∀c,aA c=true->c.aV≠0->(c.val.f<2^64/\c.new.f<2^64)->(how c).2=true->
 (how c).1.key=c.key/\aA (how c).1=true/\((how c).1.val.f<2^64/\(how c).1.new.f<2^64)/\(au (how c).1).length<=(au c).length
theorem lU{c:Cell}(h:aA c=true):bp c.key=true/\bq c.val=true/\bq c.new=true/\0<=c.aV/\c.aV<=1099511627776/\(0<c.aV\/(c.new.kind=0/\c.val.kind≠0)):=by
 unfold aA at h
 simp only[Bool.and_eq_true,Bool.or_eq_true,decide_eq_true_eq,Bool.not_eq_true',decide_eq_false_iff_not]at h
 obtain⟨⟨⟨⟨⟨h1,h2⟩,h3⟩,h4⟩,h5⟩,h6⟩:=h
 exact⟨h1,h2,h3,h4,h5,h6⟩
theorem rE{c:Cell}(h1:bp c.key=true)(h2:bq c.val=true)(h3:bq c.new=true)(h4:0<=c.aV)(h5:c.aV<=1099511627776)(h6:0<c.aV\/(c.new.kind=0/\c.val.kind≠0)):aA c=true:=by
 unfold aA
 rw[h1,h2,h3,decide_eq_true h4,decide_eq_true h5]
 rcases h6 with h|⟨ha,hb⟩
 . rw[decide_eq_true h];rfl
 . rw[decide_eq_true ha,decide_eq_false hb];simp
theorem rF:bq aW=true:=by decide
theorem xb:(put 0).length=1:=di (by omega) (by omega)
theorem uQ:AD ez:=fun c hm ht hf h=>by
 obtain⟨h1,h2,h3,h4,h5,h6⟩:=lU hm
 unfold ez at h⊢
 by_cases hk:c.val.kind=0
 . rw[if_pos hk]at h;cases h
 . rw[if_neg hk]
   refine⟨rfl,rE h1 h2 rF (Int.le_refl 0) (show(0:Int)<=1099511627776 by decide) (.inr ⟨rfl,hk⟩),⟨hf.1,by show 0<2^64;decide⟩,?_⟩
   unfold au
   dsimp only
   have:=d_ c.aV
   simp only[List.length_append,xb,if_neg (show¬(0:Int)<0 by omega),List.length_nil]
   omega
theorem tL:AD cR:=fun c hm ht hf h=>by
 obtain⟨h1,h2,h3,h4,h5,h6⟩:=lU hm
 have ht':0<c.aV:=by omega
 unfold cR at h⊢
 rw[if_pos ht']at h⊢
 unfold ez at h⊢
 dsimp only at h⊢
 by_cases hk:c.new.kind=0
 . rw[if_pos hk]at h;cases h
 . rw[if_neg hk]
   refine⟨rfl,rE h1 h3 rF (Int.le_refl 0) (show(0:Int)<=1099511627776 by decide) (.inr ⟨rfl,hk⟩),⟨hf.2,by show 0<2^64;decide⟩,?_⟩
   unfold au
   dsimp only
   have:=d_ c.aV
   simp only[List.length_append,xb,if_neg (show¬(0:Int)<0 by omega),if_pos ht',List.length_nil]
   omega
def mz(l:List Cell)(F:Cell->Option Cell)(i:Nat):List Cell:=(l.take i).filterMap F++l.drop i
def gU(l:List Cell)(F:Cell->Option Cell):Prop:=∀c∈l,∀x,F c=some x->x.key=c.key
theorem nW{F:Cell->Option Cell}:∀{l:List Cell},gU l F->(keysOf (l.filterMap F)).Sublist (keysOf l)
 |[],_=>List.Sublist.refl _
 |c::l,h=>by
  have ih:=nW (F:=F) (l:=l) fun d hd=>h d (by simp[hd])
  rw[List.filterMap_cons]
  cases hF:F c with
  |none=>exact List.Sublist.cons _ ih
  |some x=>
   have:=h c (by simp) x hF
   show(x.key::keysOf (l.filterMap F)).Sublist (c.key::keysOf l)
   rw[this];exact List.Sublist.cons_cons _ ih
theorem si{l:List Cell}{F:Cell->Option Cell}(hr:rising (keysOf l))(hk:gU l F)(i:Nat):rising (keysOf (mz l F i)):=by
 refine hr.sublist ?_
 have e:keysOf l=keysOf (l.take i)++keysOf (l.drop i):=by unfold keysOf;rw[<-List.map_append,List.take_append_drop]
 rw[e]
 show(List.map Cell.key ((l.take i).filterMap F++l.drop i)).Sublist _
 rw[List.map_append]
 exact List.Sublist.append (nW fun c hc=>hk c (List.mem_of_mem_take hc)) (List.Sublist.refl _)
theorem nX{l:List Cell}{F:Cell->Option Cell}{i:Nat}{c:Cell}(hc:l[i]? =some c):mz l F i=(l.take i).filterMap F++c::l.drop (i+1):=by
 obtain⟨hlt,rfl⟩:=List.getElem?_eq_some_iff.1 hc
 unfold mz;rw[List.drop_eq_getElem_cons hlt]
theorem rG{l:List Cell}{F:Cell->Option Cell}{i:Nat}{c:Cell}(hc:l[i]? =some c):mz l F (i+1)=((l.take i).filterMap F++(F c).toList)++l.drop (i+1):=by
 unfold mz
 rw[List.take_add_one,hc,Option.toList_some,List.filterMap_append]
 rw[show List.filterMap F [c]=(F c).toList by rw[List.filterMap_cons];cases F c<;>rfl]
theorem Bj{l:List Cell}{F:Cell->Option Cell}{i:Nat}{c:Cell}(hc:l[i]? =some c):(mz l F i)[((l.take i).filterMap F).length]? =some c:=by
 rw[nX hc,List.getElem?_append_right (Nat.le_refl _),Nat.sub_self];rfl
theorem GO{l:List Cell}{F:Cell->Option Cell}{i:Nat}{c x:Cell}(hr:rising (keysOf l))(hk:gU l F)(hc:l[i]? =some c)(hx:F c=some x):bZ (mz l F i) x=mz l F (i+1):=by
 rw[Ff (si hr hk i) (Bj hc) (hk c (List.mem_of_getElem? hc) x hx),rG hc,nX hc,hx,List.set_append_right _ _ (Nat.le_refl _),Nat.sub_self]
 simp
theorem GP{l:List Cell}{F:Cell->Option Cell}{i:Nat}{c:Cell}(hr:rising (keysOf l))(hk:gU l F)(hc:l[i]? =some c)(hx:F c=none):ia (mz l F i) c.key=mz l F (i+1):=by
 have h:=si hr hk i
 rw[rG hc,hx,Option.toList_none,List.append_nil]
 rw[nX hc]at h⊢
 have h':rising (keysOf ((l.take i).filterMap F)++c.key::keysOf (l.drop (i+1))):=by
  have:keysOf ((l.take i).filterMap F++c::l.drop (i+1))=keysOf ((l.take i).filterMap F)++c.key::keysOf (l.drop (i+1)):=by unfold keysOf;rw[List.map_append];rfl
  rw[<-this];exact h
 obtain⟨_,h2,h3⟩:=List.pairwise_append.1 h'
 have h4:=(List.pairwise_cons.1 h2).1
 unfold ia
 rw[List.filter_append,List.filter_cons,if_neg (by simp)]
 rw[List.filter_eq_self.2 fun y hy=> ?_,List.filter_eq_self.2 fun y hy=> ?_]
 . exact decide_eq_true fun e=>by have:=h4 y.key (List.mem_map.2 ⟨y,hy,rfl⟩);rw[e,aC]at this;cases this
 . exact decide_eq_true fun e=>by have:=h3 y.key (List.mem_map.2 ⟨y,hy,rfl⟩) c.key (by simp);rw[e,aC]at this;cases this
theorem xd{l:List Cell}{F:Cell->Option Cell}{i:Nat}{c:Cell}(hc:l[i]? =some c)(hx:F c=some c):mz l F (i+1)=mz l F i:=by
 rw[rG hc,nX hc,hx];simp
theorem GQ(l:List Cell)(F:Cell->Option Cell):mz l F l.length=l.filterMap F:=by unfold mz;rw[List.take_length,List.drop_length,List.append_nil]
end Go.Pl
end
section
namespace Go.Pl
open Go Go.Sx
def cI(d:List bE):List ByteArray:=d.map Prod.fst
def bO(d:List bE)(k:ByteArray):Option Vl:=(d.find? fun p=>decide (p.1=k)).map Prod.snd
def iO(k:ByteArray)(v:Vl)(st:List bE×Bool)(x:bE):List bE×Bool:=if st.2=false/\bY x.1 k=false then(st.1++[(k,v)],true)else st
def dR(k:ByteArray)(v:Vl)(st:List bE×Bool)(x:bE):List bE×Bool:=if x.1≠k then((iO k v st x).1++[x],(iO k v st x).2)else iO k v st x
theorem xe(k:ByteArray)(v:Vl)(st:List bE×Bool)(x:bE):(iO k v st x).1.length<=st.1.length+1:=by
 unfold iO;split<;>simp
theorem tN(k:ByteArray)(v:Vl)(st:List bE×Bool)(x:bE):(dR k v st x).2=(iO k v st x).2:=by unfold dR;split<;>rfl
def dw(d:List bE)(k:ByteArray)(v:Vl)(i:Nat):List bE×Bool:=(d.take i).foldl (dR k v) ([],decide (v.kind=0))
def iP(d:List bE)(k:ByteArray)(v:Vl):List bE:=if(dw d k v d.length).2=false then(dw d k v d.length).1++[(k,v)]else(dw d k v d.length).1
theorem z_{d:List bE}{k:ByteArray}{v:Vl}{x:bE}{i:Nat}(h:d[i]? =some x):dw d k v (i+1)=dR k v (dw d k v i) x:=by
 unfold dw
 rw[List.take_add_one,h,Option.toList_some,List.foldl_append];rfl
theorem tO{k:ByteArray}{v:Vl}:∀(d:List bE) (st:List bE×Bool),(d.foldl (dR k v) st).1.length<=st.1.length+2*d.length
 |[],st=>by simp
 |x::d,st=>by
  have:=tO (k:=k) (v:=v) d (dR k v st x)
  have h2:(dR k v st x).1.length<=st.1.length+2:=by
   have:=xe k v st x
   unfold dR
   split<;>simp<;>omega
  rw[List.foldl_cons,List.length_cons];omega
theorem tP(d:List bE)(k:ByteArray)(v:Vl)(i:Nat):(dw d k v i).1.length<=2*d.length:=by
 have:=tO (k:=k) (v:=v) (d.take i) ([],decide (v.kind=0))
 have h:(d.take i).length<=d.length:=by rw[List.length_take];omega
 unfold dw
 simp only[List.length_nil]at this;omega
theorem gX{k:ByteArray}{v:Vl}:∀{d:List bE} {out:List bE},d.foldl (dR k v) (out,true)=(out++d.filter (fun x=>decide (x.1≠k)),true)
 |[],out=>by simp
 |x::d,out=>by
  rw[List.foldl_cons]
  by_cases h:x.1=k
  . have e:dR k v (out,true) x=(out,true):=by simp[dR,iO,h]
    rw[e,gX,List.filter_cons,if_neg (by simp[h])]
  . have e:dR k v (out,true) x=(out++[x],true):=by simp[dR,iO,h]
    rw[e,gX,List.filter_cons,if_pos (decide_eq_true h)];simp
theorem xg{k:ByteArray}{v:Vl}:∀{d:List bE} {out:List bE},rising (cI d)->
 (if(d.foldl (dR k v) (out,false)).2=false then(d.foldl (dR k v) (out,false)).1++[(k,v)]else(d.foldl (dR k v) (out,false)).1)=out++(d.filter (fun x=>bY x.1 k)++(k,v)::d.filter (fun x=>bY k x.1))
 |[],out,_=>by simp
 |x::d,out,h=>by
  have h':=List.pairwise_cons.1 h
  have hgt:∀y∈d,bY x.1 y.1=true:=fun y hy=>h'.1 _ (List.mem_map.2 ⟨y,hy,rfl⟩)
  rw[List.foldl_cons,List.filter_cons,List.filter_cons]
  rcases ep x.1 k with h1|h1|h1
  . have h2:x.1≠k:=fun e=>by rw[e,aC]at h1;cases h1
    have e:dR k v (out,false) x=(out++[x],false):=by simp[dR,iO,h1,h2]
    rw[e,xg h'.2,if_pos h1,if_neg (by rw[cL h1];simp)]
    simp
  . have e:dR k v (out,false) x=(out++[(k,v)],true):=by simp[dR,iO,h1,aC]
    have hl:∀y∈d,bY k y.1=true:=fun y hy=>by rw[<-h1];exact hgt y hy
    have hne:∀y∈d,y.1≠k:=fun y hy e=>by have:=hl y hy;rw[e,aC]at this;cases this
    have f1:d.filter (fun x=>bY x.1 k)=[]:=List.filter_eq_nil_iff.2 fun y hy=>by rw[cL (hl y hy)];simp
    have f2:d.filter (fun x=>bY k x.1)=d:=List.filter_eq_self.2 hl
    have f3:d.filter (fun x=>decide (x.1≠k))=d:=List.filter_eq_self.2 fun y hy=>decide_eq_true (hne y hy)
    rw[e,gX,if_neg (by simp),if_neg (by rw[h1,aC];simp),if_neg (by rw[h1,aC];simp),f1,f2,f3]
    simp
  . have h2:x.1≠k:=fun e=>by rw[e,aC]at h1;cases h1
    have e:dR k v (out,false) x=(out++[(k,v),x],true):=by simp[dR,iO,cL h1,h2]
    have hl:∀y∈d,bY k y.1=true:=fun y hy=>bB h1 (hgt y hy)
    have hne:∀y∈d,y.1≠k:=fun y hy e=>by have:=hl y hy;rw[e,aC]at this;cases this
    have f1:d.filter (fun x=>bY x.1 k)=[]:=List.filter_eq_nil_iff.2 fun y hy=>by rw[cL (hl y hy)];simp
    have f2:d.filter (fun x=>bY k x.1)=d:=List.filter_eq_self.2 hl
    have f3:d.filter (fun x=>decide (x.1≠k))=d:=List.filter_eq_self.2 fun y hy=>decide_eq_true (hne y hy)
    rw[e,gX,if_neg (by simp),if_neg (by rw[cL h1];simp),if_pos h1,f1,f2,f3]
    simp
theorem o4{d:List bE}{k:ByteArray}{v:Vl}(h:v.kind=0):iP d k v=d.filter (fun x=>decide (x.1≠k)):=by
 unfold iP dw
 rw[List.take_length,decide_eq_true h,gX,if_neg (by simp)];simp
theorem o5{d:List bE}{k:ByteArray}{v:Vl}(hr:rising (cI d))(h:v.kind≠0):iP d k v=d.filter (fun x=>bY x.1 k)++(k,v)::d.filter (fun x=>bY k x.1):=by
 have:=xg (k:=k) (v:=v) (out:=[]) hr
 unfold iP dw
 rw[List.take_length,decide_eq_false h,this];simp
theorem nY{d:List bE}{k:ByteArray}{v:Vl}(hr:rising (cI d))(z:bE):z∈iP d k v↔(z=(k,v)/\v.kind≠0)\/(z∈d/\z.1≠k):=by
 by_cases h:v.kind=0
 . rw[o4 h,List.mem_filter];simp[h]
 . rw[o5 hr h,List.mem_append,List.mem_cons,List.mem_filter,List.mem_filter]
   constructor
   . rintro(⟨h1,h2⟩|h1|⟨h1,h2⟩)
     . exact .inr ⟨h1,uw h2⟩
     . exact .inl ⟨h1,h⟩
     . exact .inr ⟨h1,fun e=>by rw[e,aC]at h2;cases h2⟩
   . rintro(⟨h1,_⟩|⟨h1,h2⟩)
     . exact .inr (.inl h1)
     . rcases ep z.1 k with h3|h3|h3
       . exact .inl ⟨h1,h3⟩
       . exact absurd h3 h2
       . exact .inr (.inr ⟨h1,h3⟩)
theorem eT{d:List bE}{k:ByteArray}{v:Vl}(hr:rising (cI d)):rising (cI (iP d k v)):=by
 by_cases h:v.kind=0
 . rw[o4 h];exact hr.sublist (List.filter_sublist.map _)
 . rw[o5 hr h]
   unfold cI rising
   rw[List.map_append,List.pairwise_append,List.map_cons,List.pairwise_cons]
   refine⟨hr.sublist (List.filter_sublist.map _),⟨fun q hq=> ?_,hr.sublist (List.filter_sublist.map _)⟩,fun a ha b hb=> ?_⟩
   . obtain⟨y,hy,rfl⟩:=List.mem_map.1 hq
     exact(List.mem_filter.1 hy).2
   . obtain⟨x,hx,rfl⟩:=List.mem_map.1 ha
     have hx:=(List.mem_filter.1 hx).2
     rcases List.mem_cons.1 hb with rfl|hb
     . exact hx
     . obtain⟨y,hy,rfl⟩:=List.mem_map.1 hb
       exact bB hx (List.mem_filter.1 hy).2
theorem tQ:∀{a b:List bE},rising (cI a)->rising (cI b)->(∀c,c∈a↔c∈b)->a=b
 |[],[],_,_,_=>rfl
 |[],y::b,_,_,h=>by have:=(h y).2 (by simp);cases this
 |x::a,[],_,_,h=>by have:=(h x).1 (by simp);cases this
 |x::a,y::b,ha,hb,h=>by
  have RM:=List.pairwise_cons.1 ha
  have hb':=List.pairwise_cons.1 hb
  have RN:∀z∈a,bY x.1 z.1=true:=fun z hz=>RM.1 _ (List.mem_map.2 ⟨z,hz,rfl⟩)
  have RO:∀z∈b,bY y.1 z.1=true:=fun z hz=>hb'.1 _ (List.mem_map.2 ⟨z,hz,rfl⟩)
  have e:x=y:=by
   rcases List.mem_cons.1 ((h x).1 (by simp))with h1|h1
   . exact h1
   . rcases List.mem_cons.1 ((h y).2 (by simp))with h2|h2
     . exact h2.symm
     . have:=bB (RO x h1) (RN y h2);rw[aC]at this;cases this
  subst e
  congr 1
  refine tQ RM.2 hb'.2 fun c=>⟨fun hc=> ?_,fun hc=> ?_⟩
  . rcases List.mem_cons.1 ((h c).1 (by simp[hc]))with h1|h1
    . have:=RN c hc;rw[h1,aC]at this;cases this
    . exact h1
  . rcases List.mem_cons.1 ((h c).2 (by simp[hc]))with h1|h1
    . have:=RO c hc;rw[h1,aC]at this;cases this
    . exact h1
theorem fo{d:List bE}(hr:rising (cI d)){k:ByteArray}{v:Vl}:bO d k=some v↔(k,v)∈d:=by
 unfold bO
 rw[Option.map_eq_some_iff]
 constructor
 . rintro⟨p,h1,rfl⟩
   have hm:=List.mem_of_find?_eq_some h1
   have hk:p.1=k:=by simpa using List.find?_some h1
   subst hk;exact hm
 . intro h
   cases hf:d.find? fun p=>decide (p.1=k)with
   |none=>have:=List.find?_eq_none.1 hf _ h;simp at this
   |some p=>
    have hm:=List.mem_of_find?_eq_some hf
    have hk:p.1=k:=by simpa using List.find?_some hf
    have hn:=oh hr
    refine⟨p,rfl,?_⟩
    have:p=(k,v):=by
     obtain⟨i,hi⟩:=List.getElem?_of_mem hm
     obtain⟨j,hj⟩:=List.getElem?_of_mem h
     have e:i=j:=by
      rcases Nat.lt_trichotomy i j with h1|h1|h1
      . have:=ey hr h1 (by unfold cI;rw[List.getElem?_map,hi];rfl) (by unfold cI;rw[List.getElem?_map,hj];rfl)
        rw[hk,aC]at this;cases this
      . exact h1
      . have:=ey hr h1 (by unfold cI;rw[List.getElem?_map,hj];rfl) (by unfold cI;rw[List.getElem?_map,hi];rfl)
        rw[hk,aC]at this;cases this
     subst e;rw[hi]at hj;injection hj
    rw[this]
theorem tT{d:List bE}{k:ByteArray}:bO d k=none↔∀p∈d,p.1≠k:=by
 unfold bO
 rw[Option.map_eq_none_iff,List.find?_eq_none]
 simp
theorem nZ{d:List bE}(hr:rising (cI d)){k q:ByteArray}{v:Vl}:bO (iP d k v) q=if q=k then(if v.kind=0 then none else some v)else bO d q:=by
 by_cases hq:q=k
 . subst hq
   rw[if_pos rfl]
   by_cases hv:v.kind=0
   . rw[if_pos hv,tT]
     intro p hp
     rcases(nY hr p).1 hp with⟨_,h⟩|⟨_,h⟩
     . exact absurd hv h
     . exact h
   . rw[if_neg hv,fo (eT hr)]
     exact(nY hr _).2 (.inl ⟨rfl,hv⟩)
 . rw[if_neg hq]
   cases hd:bO d q with
   |none=>
    rw[tT]at hd⊢
    intro p hp
    rcases(nY hr p).1 hp with⟨h,_⟩|⟨h,_⟩
    . rw[h];exact fun e=>hq e.symm
    . exact hd p h
   |some w=>
    rw[fo hr]at hd
    rw[fo (eT hr)]
    exact(nY hr _).2 (.inr ⟨hd,hq⟩)
end Go.Pl
end
section
namespace Go.Pl
open Go Go.Sx
structure aP where
 aV:Int
 key:ByteArray
 val:Vl
def dr(o:aP):List Value:= .int .i64 o.aV:: .string o.key::bA o.val
def bN(ow:List aP)(k:ByteArray):Option aP:=ow.find? fun o=>decide (o.key=k)
def cX(t:Int)(d:List bE)(o:aP):List bE:=if 0<t/\o.aV=t then iP d o.key o.val else d
def ke(d:List bE)(ow:List aP)(t:Int):List bE:=ow.foldl (cX t) d
theorem h_{t:Int}{d:List bE}{o:aP}(h:rising (cI d)):rising (cI (cX t d o)):=by
 unfold cX;split
 . exact eT h
 . exact h
theorem qf{t:Int}:∀{ow:List aP} {d:List bE},rising (cI d)->rising (cI (ke d ow t))
 |[],_,h=>h
 |o::ow,d,h=>qf (ow:=ow) (d:=cX t d o) (h_ h)
theorem fN{ow:List aP}{k:ByteArray}{o:aP}(h:bN ow k=some o):o∈ow/\o.key=k:=
 ⟨List.mem_of_find?_eq_some h,by have:=List.find?_some (p:=fun o:aP=>decide (o.key=k)) h;simpa using this⟩
theorem dx{ow:List aP}{k:ByteArray}:bN ow k=none↔∀o∈ow,o.key≠k:=by
 unfold bN;rw[List.find?_eq_none];simp
theorem lV{ow:List aP}(hn:(ow.map aP.key).Nodup){o:aP}(h:o∈ow):bN ow o.key=some o:=by
 induction ow with
 |nil=>cases h
 |cons x ow ih=>
  have hn':=List.nodup_cons.1 (by simpa using hn:(x.key::ow.map aP.key).Nodup)
  unfold bN
  rw[List.find?_cons]
  rcases List.mem_cons.1 h with rfl|h
  . simp
  . have hne:x.key≠o.key:=fun e=>hn'.1 (by rw[e];exact List.mem_map.2 ⟨o,h,rfl⟩)
    simp only[decide_eq_false hne]
    exact ih hn'.2 h
theorem rH{t:Int}{k:ByteArray}:∀{ow:List aP} {d:List bE},rising (cI d)->(ow.map aP.key).Nodup->
 bO (ke d ow t) k=match bN ow k with|some o=>if 0<t/\o.aV=t then(if o.val.kind=0 then none else some o.val)else bO d k|none=>bO d k
 |[],d,_,_=>rfl
 |o::ow,d,h,hn=>by
  have hn':=List.nodup_cons.1 (by simpa using hn:(o.key::ow.map aP.key).Nodup)
  have ih:=rH (t:=t) (k:=k) (ow:=ow) (d:=cX t d o) (h_ h) hn'.2
  show bO (ke (cX t d o) ow t) k=_
  rw[ih]
  by_cases hk:o.key=k
  . have h1:bN ow k=none:=dx.2 fun x hx e=>hn'.1 (by rw[hk,<-e];exact List.mem_map.2 ⟨x,hx,rfl⟩)
    have h2:bN (o::ow) k=some o:=by unfold bN;rw[List.find?_cons];simp[hk]
    rw[h1,h2]
    dsimp only
    unfold cX
    by_cases hc:0<t/\o.aV=t
    . rw[if_pos hc,if_pos hc,nZ h,if_pos hk.symm]
    . rw[if_neg hc,if_neg hc]
  . have h2:bN (o::ow) k=bN ow k:=by unfold bN;rw[List.find?_cons];simp[hk]
    have h3:bO (cX t d o) k=bO d k:=by
     unfold cX;split
     . rw[nZ h,if_neg fun e=>hk e.symm]
     . rfl
    rw[h2,h3]
def e_(d:List bE)(ow:List aP)(k:ByteArray):Option Cell:=match bN ow k with
 |some o=>some ⟨k,(bO d k).getD aW,o.aV,o.val⟩
 |none=>(bO d k).map fun v=>⟨k,v,0,aW⟩
structure nh(d:List bE)(ow:List aP)(l:List Cell):Prop where
 fq:rising (cI d)
 once:(ow.map aP.key).Nodup
 dk:∀p∈d,p.2.kind≠0
 own:∀o∈ow,0<o.aV
 lr:rising (keysOf l)
 good:∀c∈l,aA c=true
 cell:∀k,cq l k=e_ d ow k
theorem nh.Kr:nh [] [] []:=⟨List.Pairwise.nil,List.nodup_nil,(fun _ h=>by cases h),(fun _ h=>by cases h),List.Pairwise.nil,(fun _ h=>by cases h),fun _=>rfl⟩
theorem GR{v:Vl}(h:bq v=true)(hk:v.kind=0):v=aW:=by
 unfold bq at h
 rw[if_pos hk]at h
 simp only[Bool.and_eq_true,decide_eq_true_eq]at h
 obtain⟨a,b,c⟩:=v
 dsimp only at hk h
 rw[hk,h.1,h.2];rfl
theorem eC{l:List Cell}(hr:rising (keysOf l)){c:Cell}:c∈l↔cq l c.key=some c:=by
 constructor
 . intro h;exact(Bi hr (o:=some c) ⟨h,rfl⟩).symm
 . intro h;exact List.mem_of_find?_eq_some (show l.find? (fun x=>decide (x.key=c.key))=some c from h)
theorem dZ{l:List Cell}{k:ByteArray}{c:Cell}(h:cq l k=some c):c∈l/\c.key=k:=
 ⟨List.mem_of_find?_eq_some (show l.find? (fun x=>decide (x.key=k))=some c from h),by have:=List.find?_some (p:=fun x:Cell=>decide (x.key=k)) h;simpa using this⟩
theorem nh.Oq{d:List bE}{ow:List aP}{l:List Cell}(h:nh d ow l)(t:Int)(k:ByteArray):oF l t k=(bO (ke d ow t) k).getD aW:=by
 have hc:=h.cell k
 rw[rH h.fq h.once]
 unfold oF
 unfold e_ at hc
 cases ho:bN ow k with
 |none=>
  rw[ho]at hc
  dsimp only at hc⊢
  cases hv:bO d k with
  |none=>rw[hv]at hc;rw[hc];rfl
  |some v=>
   rw[hv]at hc
   rw[show cq l k=some ⟨k,v,0,aW⟩from hc]
   show iw _ t=v
   unfold iw
   rw[if_neg (by dsimp only;omega)]
 |some o=>
  rw[ho]at hc
  dsimp only at hc⊢
  rw[hc]
  show iw _ t=_
  unfold iw
  dsimp only
  by_cases ht:0<t/\o.aV=t
  . rw[if_pos ht,if_pos ht]
    by_cases hk:o.val.kind=0
    . rw[if_pos hk]
      have hg:=h.good _ (dZ hc).1
      exact GR (lU hg).2.2.1 hk
    . rw[if_neg hk];rfl
  . rw[if_neg ht,if_neg ht]
theorem sj{t:Int}:∀{l:List Cell},(cI (l.filterMap (dn t))).Sublist (keysOf l)
 |[]=>List.Sublist.refl _
 |c::l=>by
  have ih:=sj (t:=t) (l:=l)
  rw[List.filterMap_cons]
  cases hF:dn t c with
  |none=>exact List.Sublist.cons _ ih
  |some x=>
   have:x.1=c.key:=by unfold dn at hF;split at hF<;>cases hF;rfl
   show(x.1::cI (l.filterMap (dn t))).Sublist (c.key::keysOf l)
   rw[this];exact List.Sublist.cons_cons _ ih
theorem nh.range{d:List bE}{ow:List aP}{l:List Cell}(h:nh d ow l)(t:Int)(a b:ByteArray):iJ l t a b=(ke d ow t).filter fun p=>bu p.1 a b:=by
 have hs:=qf (t:=t) (ow:=ow) h.fq
 refine tQ ?_ ?_ fun p=> ?_
 . unfold iJ
   exact(h.lr.sublist (List.filter_sublist.map _)).sublist sj
 . exact hs.sublist (List.filter_sublist.map _)
 . obtain⟨k,v⟩:=p
   rw[List.mem_filter,<-fo hs]
   have mA:=h.Oq t k
   unfold iJ
   rw[List.mem_filterMap]
   constructor
   . rintro⟨c,hc,hp⟩
     obtain⟨jq,hin⟩:=List.mem_filter.1 hc
     unfold dn at hp
     split at hp
     . cases hp
     . rename_i hk
       injection hp with hp
       injection hp with h1 h2
       subst h1 h2
       refine⟨?_,hin⟩
       unfold oF at mA
       rw[(eC h.lr).1 jq]at mA
       dsimp only at mA
       cases hv:bO (ke d ow t) c.key with
       |none=>rw[hv]at mA;rw[mA]at hk;exact absurd rfl hk
       |some w=>rw[hv]at mA;rw[mA];rfl
   . rintro⟨hv,hin⟩
     rw[hv]at mA
     have LR:v.kind≠0:=by
      rw[rH h.fq h.once]at hv
      have hd:bO d k=some v->v.kind≠0:=fun e=>h.dk _ ((fo h.fq).1 e)
      cases ho:bN ow k with
      |none=>rw[ho]at hv;exact hd hv
      |some o=>
       rw[ho]at hv
       dsimp only at hv
       split at hv
       . split at hv
         . cases hv
         . rename_i h1;injection hv with hv;rw[<-hv];exact h1
       . exact hd hv
     unfold oF at mA
     cases hg:cq l k with
     |none=>rw[hg]at mA;rw[show v=aW from mA.symm]at LR;exact absurd rfl LR
     |some c=>
      rw[hg]at mA
      dsimp only at mA
      obtain⟨h1,h2⟩:=dZ hg
      refine⟨c,List.mem_filter.2 ⟨h1,by rw[h2];exact hin⟩,?_⟩
      unfold dn
      rw[if_neg (by rw[mA];exact LR),mA,h2];rfl
end Go.Pl
end
section
namespace Go.Pl
open Go Go.Sx
theorem Fg{l:List Cell}(hr:rising (keysOf l)){x:Cell}(k:ByteArray):cq (bZ l x) k=if k=x.key then some x else cq l k:=by
 have kg:=k4 hr x
 by_cases hk:k=x.key
 . subst hk
   rw[if_pos rfl]
   exact(eC kg).1 ((eB hr).2 (.inl rfl))
 . rw[if_neg hk]
   cases hg:cq l k with
   |none=>
    refine jd fun c hc e=> ?_
    rcases(eB hr).1 hc with h|⟨h,_⟩
    . exact hk (by rw[<-e,h])
    . have:=(eC hr).1 h;rw[e,hg]at this;cases this
   |some c=>
    obtain⟨h1,h2⟩:=dZ hg
    have:=(eC kg).1 ((eB hr).2 (.inr ⟨h1,by rw[h2];exact hk⟩))
    rw[h2]at this;exact this
theorem Fh{l:List Cell}(hr:rising (keysOf l))(k q:ByteArray):cq (ia l k) q=if q=k then none else cq l q:=by
 by_cases hq:q=k
 . rw[if_pos hq]
   exact jd fun c hc e=>((eG l k c).1 hc).2 (by rw[e,hq])
 . rw[if_neg hq]
   cases hg:cq l q with
   |none=>
    refine jd fun c hc e=> ?_
    have:=(eC hr).1 ((eG l k c).1 hc).1;rw[e,hg]at this;cases this
   |some c=>
    obtain⟨h1,h2⟩:=dZ hg
    have:=(eC (kZ hr k)).1 ((eG l k c).2 ⟨h1,by rw[h2];exact hq⟩)
    rw[h2]at this;exact this
theorem Fi{l:List Cell}(hr:rising (keysOf l)){F:Cell->Option Cell}(hk:gU l F)(k:ByteArray):cq (l.filterMap F) k=(cq l k).bind F:=by
 have kg:rising (keysOf (l.filterMap F)):=hr.sublist (nW hk)
 cases hg:cq l k with
 |none=>
  refine jd fun c hc e=> ?_
  obtain⟨y,hy,hF⟩:=List.mem_filterMap.1 hc
  have:=(eC hr).1 hy
  rw[<-hk y hy c hF,e,hg]at this;cases this
 |some c=>
  obtain⟨h1,h2⟩:=dZ hg
  show _=F c
  cases hF:F c with
  |none=>
   refine jd fun z hz e=> ?_
   obtain⟨y,hy,O6⟩:=List.mem_filterMap.1 hz
   have O8:=hk y hy z O6
   have:=key_inj hr hy h1 (by rw[<-O8,e,h2])
   subst this
   rw[hF]at O6;cases O6
  |some x=>
   have hx:=List.mem_filterMap.2 ⟨c,h1,hF⟩
   have:=(eC kg).1 hx
   rw[hk c h1 x hF,h2]at this;exact this
def vR(l:List Cell)(t:Int)(k:ByteArray)(v:Vl):Cell:=⟨k,((cq l k).getD noCell).val,t,v⟩
def fV(l:List Cell)(t:Int)(k:ByteArray):Prop:=∃c,cq l k=some c/\c.aV≠0/\c.aV≠t
def dX(l:List Cell)(k:ByteArray)(v:Vl):Prop:=v.kind≠0\/((cq l k).getD noCell).val.kind≠0
instance{l t k}:Decidable (fV l t k):=match h:cq l k with
 |none=>isFalse (by rintro⟨c,h1,_⟩;rw[h]at h1;cases h1)
 |some c=>if h2:c.aV≠0/\c.aV≠t then isTrue ⟨c,h,h2⟩else isFalse (by rintro⟨d,h1,h3⟩;rw[h]at h1;injection h1 with h1;subst h1;exact h2 h3)
instance{l k v}:Decidable (dX l k v):=by unfold dX;infer_instance
def cY(d:List bE)(ow:List aP)(o:aP):List aP:=
 if o.val.kind=0/\bO d o.key=none then ow.filter fun x=>decide (x.key≠o.key)
 else if(bN ow o.key).isSome=true then ow.map fun x=>if x.key=o.key then{x with val:=o.val}else x
 else ow++[o]
theorem ve{ow:List aP}{k q:ByteArray}:bN (ow.filter fun x=>decide (x.key≠k)) q=if q=k then none else bN ow q:=by
 by_cases hq:q=k
 . rw[if_pos hq,dx]
   intro o ho
   have:=(List.mem_filter.1 ho).2
   rw[hq];simpa using this
 . rw[if_neg hq]
   unfold bN
   rw[List.find?_filter]
   congr 1;funext x
   by_cases hx:x.key=q
   . simp[hx,hq]
   . simp[hx]
theorem Ct{ow:List aP}{o:aP}(h:bN ow o.key=none)(q:ByteArray):bN (ow++[o]) q=if q=o.key then some o else bN ow q:=by
 unfold bN at h⊢
 rw[List.find?_append]
 by_cases hq:q=o.key
 . subst hq
   rw[h,if_pos rfl];simp
 . rw[if_neg hq]
   have:[o].find? (fun x=>decide (x.key=q))=none:=by simp[Ne.symm hq]
   rw[this];cases ow.find? _<;>rfl
theorem tV{k:ByteArray}{v:Vl}(q:ByteArray):∀{ow:List aP},bN (ow.map fun x=>if x.key=k then{x with val:=v}else x) q=if q=k then(bN ow q).map fun x=>{x with val:=v}else bN ow q
 |[]=>by simp[bN]
 |x::ow=>by
  have ih:=tV (k:=k) (v:=v) q (ow:=ow)
  unfold bN at ih⊢
  rw[List.map_cons,List.find?_cons,List.find?_cons]
  by_cases hx:x.key=k
  . rw[if_pos hx]
    dsimp only
    by_cases hq:x.key=q
    . simp[hq,<-hx]
    . simp only[decide_eq_false hq];exact ih
  . rw[if_neg hx]
    by_cases hq:x.key=q
    . have:q≠k:=fun e=>hx (by rw[hq,e])
      simp[hq,this]
    . simp only[decide_eq_false hq];exact ih
theorem gk{ow:List aP}(h:(ow.map aP.key).Nodup)(p:aP->Bool):((ow.filter p).map aP.key).Nodup:=h.sublist (List.filter_sublist.map _)
theorem nh.write{d:List bE}{ow:List aP}{l:List Cell}(h:nh d ow l){o:aP}(ht:0<o.aV)(hb:¬fV l o.aV o.key)(hm:aA (vR l o.aV o.key o.val)=true):
 nh d (cY d ow o) (if dX l o.key o.val then bZ l (vR l o.aV o.key o.val)else ia l o.key):=by
 have hc:=h.cell o.key
 have hval:((cq l o.key).getD noCell).val=(bO d o.key).getD aW:=by
  rw[hc];unfold e_
  cases bN ow o.key with
  |some x=>rfl
  |none=>cases bO d o.key<;>rfl
 have hin:((cq l o.key).getD noCell).val.kind=0↔bO d o.key=none:=by
  rw[hval]
  cases hv:bO d o.key with
  |none=>simp[aW]
  |some v=>simp[h.dk _ ((fo h.fq).1 hv)]
 have hown:∀x,bN ow o.key=some x->x.aV=o.aV:=fun x hx=>by
  refine Decidable.byContradiction fun hne=>hb ?_
  refine⟨⟨o.key,(bO d o.key).getD aW,x.aV,x.val⟩,?_,?_,hne⟩
  . rw[h.cell];unfold e_;rw[hx]
  . have:=h.own x (fN hx).1
    show x.aV≠0;omega
 by_cases hk:dX l o.key o.val
 . rw[if_pos hk]
   have hk':¬(o.val.kind=0/\bO d o.key=none):=fun⟨h1,h2⟩=>hk.elim (fun h3=>h3 h1) fun h3=>h3 (hin.2 h2)
   have Nb:∀q,bN (cY d ow o) q=if q=o.key then some o else bN ow q:=fun q=>by
    unfold cY
    rw[if_neg hk']
    cases hx:bN ow o.key with
    |none=>rw[if_neg (by simp)];exact Ct hx q
    |some x=>
     rw[if_pos (show(some x).isSome=true from rfl),tV]
     by_cases hq:q=o.key
     . subst hq
       rw[if_pos rfl,if_pos rfl,hx]
       have h1:=hown x hx
       have h2:=(fN hx).2
       obtain⟨a,b,c⟩:=x
       obtain⟨a',b',c'⟩:=o
       dsimp only at h1 h2⊢
       subst h1 h2;rfl
     . rw[if_neg hq,if_neg hq]
   refine⟨h.fq,?_,h.dk,?_,k4 h.lr _,fun c IE=> ?_,fun q=> ?_⟩
   . unfold cY
     rw[if_neg hk']
     split
     . have e:(ow.map fun x=>if x.key=o.key then{x with val:=o.val}else x).map aP.key=ow.map aP.key:=by
        rw[List.map_map];congr 1;funext x;dsimp only[Function.comp];split<;>rfl
       rw[e];exact h.once
     . rename_i hno
       have hno:bN ow o.key=none:=by simpa using hno
       rw[List.map_append]
       refine List.nodup_append.2 ⟨h.once,by simp,fun a ha b hb e=> ?_⟩
       obtain⟨x,hx,rfl⟩:=List.mem_map.1 ha
       have hb:b=o.key:=by simpa using hb
       exact dx.1 hno x hx (e.trans hb)
   . intro x hx
     unfold cY at hx
     rw[if_neg hk']at hx
     split at hx
     . obtain⟨y,hy,rfl⟩:=List.mem_map.1 hx
       split
       . exact h.own y hy
       . exact h.own y hy
     . rcases List.mem_append.1 hx with hx|hx
       . exact h.own x hx
       . rw[List.mem_singleton]at hx;rw[hx];exact ht
   . rcases(eB h.lr).1 IE with rfl|⟨IE,_⟩
     . exact hm
     . exact h.good c IE
   . rw[Fg h.lr]
     show(if q=o.key then _ else _)=_
     unfold e_
     rw[Nb q]
     by_cases hq:q=o.key
     . rw[if_pos hq,if_pos hq]
       subst hq
       show some (vR l o.aV o.key o.val)=some _
       unfold vR;rw[hval]
     . rw[if_neg hq,if_neg hq];exact h.cell q
 . rw[if_neg hk]
   have qC:o.val.kind=0:=Decidable.byContradiction fun h1=>hk (.inl h1)
   have hk2:bO d o.key=none:=hin.1 (Decidable.byContradiction fun h1=>hk (.inr h1))
   have hw:cY d ow o=ow.filter fun x=>decide (x.key≠o.key):=by unfold cY;rw[if_pos ⟨qC,hk2⟩]
   rw[hw]
   refine⟨h.fq,gk h.once _,h.dk,fun x hx=>h.own x (List.mem_filter.1 hx).1,kZ h.lr _,fun c IE=>h.good c ((eG l _ c).1 IE).1,fun q=> ?_⟩
   rw[Fh h.lr]
   unfold e_
   rw[ve]
   by_cases hq:q=o.key
   . rw[if_pos hq,if_pos hq];subst hq;rw[hk2];rfl
   . rw[if_neg hq,if_neg hq];exact h.cell q
def eV(t x:Int):Bool:=decide (¬0<t\/x=t)
def kE(ow:List aP)(t:Int):List aP:=ow.filter fun o=> !eV t o.aV
def fB(d:List bE)(ow:List aP)(t:Int)(bW:Bool):List bE:=(ow.filter fun o=>eV t o.aV).foldl (fun d o=>if bW=true then iP d o.key o.val else d) d
def kF(ow:List aP)(t:Int):Nat:=(ow.filter fun o=>eV t o.aV).length
theorem oq{bW:Bool}:∀{ow:List aP} {d:List bE},rising (cI d)->rising (cI (ow.foldl (fun d o=>if bW=true then iP d o.key o.val else d) d))
 |[],_,h=>h
 |o::ow,d,h=>by
  rw[List.foldl_cons]
  refine oq (ow:=ow) ?_
  split
  . exact eT h
  . exact h
theorem tW{k:ByteArray}{bW:Bool}:∀{ow:List aP} {d:List bE},rising (cI d)->(ow.map aP.key).Nodup->
 bO (ow.foldl (fun d o=>if bW=true then iP d o.key o.val else d) d) k=match bN ow k with|some o=>if bW=true then(if o.val.kind=0 then none else some o.val)else bO d k|none=>bO d k
 |[],d,_,_=>rfl
 |o::ow,d,h,hn=>by
  have hn':=List.nodup_cons.1 (by simpa using hn:(o.key::ow.map aP.key).Nodup)
  rw[List.foldl_cons]
  have OX:rising (cI (if bW=true then iP d o.key o.val else d)):=by
   split
   . exact eT h
   . exact h
  rw[tW OX hn'.2]
  by_cases hk:o.key=k
  . have h1:bN ow k=none:=dx.2 fun x hx e=>hn'.1 (by rw[hk,<-e];exact List.mem_map.2 ⟨x,hx,rfl⟩)
    have h2:bN (o::ow) k=some o:=by unfold bN;rw[List.find?_cons];simp[hk]
    rw[h1,h2]
    dsimp only
    by_cases hc:bW=true
    . rw[if_pos hc,if_pos hc,nZ h,if_pos hk.symm]
    . rw[if_neg hc,if_neg hc]
  . have h2:bN (o::ow) k=bN ow k:=by unfold bN;rw[List.find?_cons];simp[hk]
    have h3:bO (if bW=true then iP d o.key o.val else d) k=bO d k:=by
     split
     . rw[nZ h,if_neg fun e=>hk e.symm]
     . rfl
    rw[h2,h3]
theorem sk{ow:List aP}(hn:(ow.map aP.key).Nodup)(p:aP->Bool)(q:ByteArray):bN (ow.filter p) q=(bN ow q).bind fun o=>if p o=true then some o else none:=by
 cases ho:bN ow q with
 |none=>
  rw[dx]at ho
  exact dx.2 fun o h=>ho o (List.mem_filter.1 h).1
 |some o=>
  obtain⟨h1,h2⟩:=fN ho
  show _=if p o=true then some o else none
  split
  . rename_i hp
    have:=lV (gk hn p) (List.mem_filter.2 ⟨h1,hp⟩)
    rw[h2]at this;exact this
  . rename_i hp
    refine dx.2 fun x hx e=> ?_
    obtain⟨h3,h4⟩:=List.mem_filter.1 hx
    have h5:=lV hn h3
    rw[e,ho]at h5;injection h5 with h5;subst h5
    exact hp h4
def qO(bW:Bool):Cell->Cell×Bool:=if bW=true then cR else ez
theorem Fj(bW:Bool):AD (qO bW):=by
 cases bW
 . exact uQ
 . exact tL
theorem tX{c:Cell}(h:(ez c).2=true):(ez c).1.key=c.key:=by
 unfold ez at h⊢
 by_cases hk:c.val.kind=0
 . rw[if_pos hk]at h;cases h
 . rw[if_neg hk]
theorem xU{c:Cell}(h:(cR c).2=true):(cR c).1.key=c.key:=by
 unfold cR at h⊢
 rw[tX h]
 split<;>rfl
theorem lW{l:List Cell}{p:Int->Bool}(bW:Bool):gU l (j0 p (qO bW)):=fun c hc x hx=>by
 unfold j0 at hx
 split at hx
 . split at hx
   . injection hx with hx
     rename_i h1 h2
     subst hx
     cases bW with
     |true=>exact xU h2
     |false=>exact tX h2
   . cases hx
 . injection hx with hx;rw[hx]
theorem nh.ends{d:List bE}{ow:List aP}{l:List Cell}(h:nh d ow l)(hf:C8 l)(t:Int)(bW:Bool):
 nh (fB d ow t bW) (kE ow t) (ue l (eV t) (qO bW))/\pV l (eV t)=kF ow t:=by
 have hkk:=lW (l:=l) (p:=eV t) bW
 have C1:rising (cI (fB d ow t bW)):=oq h.fq
 have hval:=fun k=>tW (k:=k) (bW:=bW) h.fq (gk h.once fun o=>eV t o.aV)
 refine⟨⟨C1,gk h.once _,fun p hp=> ?_,fun o ho=>h.own o (List.mem_filter.1 ho).1,h.lr.sublist (nW hkk),fun c hc=> ?_,fun k=> ?_⟩,?_⟩
 . obtain⟨k,v⟩:=p
   have hv:=(fo C1).2 hp
   have CY:=(hval k).symm.trans hv
   have hd:bO d k=some v->v.kind≠0:=fun e=>h.dk _ ((fo h.fq).1 e)
   show v.kind≠0
   split at CY
   . split at CY
     . split at CY
       . cases CY
       . rename_i h1;injection CY with CY;rw[<-CY];exact h1
     . exact hd CY
   . exact hd CY
 . obtain⟨y,hy,hF⟩:=List.mem_filterMap.1 hc
   unfold j0 at hF
   split at hF
   . rename_i hp
     split at hF
     . injection hF with hF;subst hF
       rename_i h2
       exact(Fj bW y (h.good y hy) hp.1 (hf y hy) h2).2.1
     . cases hF
   . injection hF with hF;rw[<-hF];exact h.good y hy
 . show cq (l.filterMap _) k=_
   rw[Fi h.lr hkk,h.cell]
   have hv:=hval k
   rw[sk h.once]at hv
   unfold e_
   show _=match bN (ow.filter fun o=> !eV t o.aV) k with|some o=>_|none=>_
   rw[sk h.once]
   cases ho:bN ow k with
   |none=>
    rw[ho]at hv
    have hv:bO (fB d ow t bW) k=bO d k:=hv
    dsimp only[Option.bind]
    rw[hv]
    cases hd:bO d k with
    |none=>rfl
    |some v=>
     show j0 (eV t) (qO bW) ⟨k,v,0,aW⟩=_
     unfold j0
     rw[if_neg (by simp)];rfl
   |some o=>
    rw[ho]at hv
    have LK:=h.own o (fN ho).1
    have hm:=h.good _ (dZ (show cq l k=some ⟨k,(bO d k).getD aW,o.aV,o.val⟩ by rw[h.cell];unfold e_;rw[ho])).1
    show j0 (eV t) (qO bW) ⟨k,(bO d k).getD aW,o.aV,o.val⟩=_
    unfold j0
    dsimp only[Option.bind]at hv⊢
    cases hp:eV t o.aV with
    |false=>
     rw[hp]at hv
     have hv:bO (fB d ow t bW) k=bO d k:=hv
     rw[if_neg (by simp)]
     simp only[Bool.not_false,if_true]
     rw[hv]
    |true=>
     have hv:bO (fB d ow t bW) k=if bW=true then(if o.val.kind=0 then none else some o.val)else bO d k:=by rw[hp]at hv;exact hv
     rw[if_pos ⟨by omega,rfl⟩]
     show _=(bO (fB d ow t bW) k).map fun v=>(⟨k,v,0,aW⟩:Cell)
     rw[hv]
     cases bW with
     |true=>
      show(if(cR ⟨k,(bO d k).getD aW,o.aV,o.val⟩).2=true then some (cR ⟨k,(bO d k).getD aW,o.aV,o.val⟩).1 else none)=(if o.val.kind=0 then none else some o.val:Option Vl).map fun v=>(⟨k,v,0,aW⟩:Cell)
      have e:cR ⟨k,(bO d k).getD aW,o.aV,o.val⟩=if o.val.kind=0 then(noCell,false)else(⟨k,o.val,0,aW⟩,true):=by
       unfold cR ez;rw[if_pos LK]
      rw[e]
      by_cases hk:o.val.kind=0
      . rw[if_pos hk,if_pos hk];rfl
      . rw[if_neg hk,if_neg hk];rfl
     |false=>
      show(if(ez ⟨k,(bO d k).getD aW,o.aV,o.val⟩).2=true then some (ez ⟨k,(bO d k).getD aW,o.aV,o.val⟩).1 else none)=(bO d k).map fun v=>(⟨k,v,0,aW⟩:Cell)
      cases hd:bO d k with
      |none=>rfl
      |some v=>
       have LR:=h.dk _ ((fo h.fq).1 hd)
       have e:ez ⟨k,(some v).getD aW,o.aV,o.val⟩=(⟨k,v,0,aW⟩,true):=by
        unfold ez;exact if_neg LR
       rw[e];rfl
 . unfold pV kF
   rw[<-List.length_map (f:=Cell.key),<-List.length_map (f:=aP.key)]
   refine Cl ((oh h.lr).sublist (List.filter_sublist.map _)) (gk h.once _) fun k=> ?_
   rw[List.mem_map,List.mem_map]
   constructor
   . rintro⟨c,hc,rfl⟩
     obtain⟨h1,h2⟩:=List.mem_filter.1 hc
     have h2:=of_decide_eq_true h2
     have hg:=(eC h.lr).1 h1
     rw[h.cell]at hg
     unfold e_ at hg
     cases ho:bN ow c.key with
     |none=>
      rw[ho]at hg
      obtain⟨v,_,hv⟩:=Option.map_eq_some_iff.1 hg
      rw[<-hv]at h2;exact absurd rfl h2.1
     |some o=>
      rw[ho]at hg
      injection hg with hg
      refine⟨o,List.mem_filter.2 ⟨(fN ho).1,?_⟩,(fN ho).2⟩
      have:c.aV=o.aV:=by rw[<-hg]
      rw[<-this];exact h2.2
   . rintro⟨o,ho,rfl⟩
     obtain⟨h1,h2⟩:=List.mem_filter.1 ho
     have ho:=lV h.once h1
     have hg:cq l o.key=some ⟨o.key,(bO d o.key).getD aW,o.aV,o.val⟩:=by rw[h.cell];unfold e_;rw[ho]
     refine⟨_,List.mem_filter.2 ⟨(dZ hg).1,decide_eq_true ⟨?_,h2⟩⟩,rfl⟩
     have:=h.own o h1
     show o.aV≠0;omega
end Go.Pl
end
section
namespace Go.Pl
open Go Go.Sx
theorem aN.good{Q:ah}:∀{d:Nat} {no:Int} {lo hi:ByteArray} {g:az},aN Q d no lo hi g->kD g.2:=by
 intro d
 induction d with
 |zero=>
  rintro no lo hi g ⟨n,h1,h2,h3,rfl,h5⟩ c hc
  obtain⟨_,_,hm,_⟩:=(b5 h3).1 h1.1.nd.may
  exact⟨hm c hc,h1.1.fl c hc⟩
 |succ d ih=>
  rintro no lo hi g ⟨n,ps,h1,h2,h3,h4,h5,rfl⟩ c hc
  obtain⟨p,hp,O4⟩:=List.mem_flatMap.1 hc
  obtain⟨i,hi⟩:=List.getElem?_of_mem hp
  obtain⟨b8,hk⟩:∃b8,n.kids[i]? =some b8:=⟨_,List.getElem?_eq_getElem (by have:=(List.getElem?_eq_some_iff.1 hi).1;omega)⟩
  exact ih (h5 i b8 p hk hi).1 c O4
theorem aL.good{Q:ah}{g:az}(h:aL Q g):kD g.2:=by
 rcases h with⟨_,rfl⟩|⟨_,_,h,_⟩
 . intro c hc;cases hc
 . exact h.good
theorem ej.good{sT b:Nat}{P:Value}{I:Chunk->Prop}{Qb:ah}{g:az}{H:Chunk}(h:ej sT b P I Qb g H):kD g.2:=by
 obtain⟨Q,_,h⟩:=h;exact h.good
theorem kD.fl{l:List Cell}(h:kD l):C8 l:=fun c hc=>(h c hc).2
theorem kD.may{l:List Cell}(h:kD l):∀c∈l,aA c=true:=fun c hc=>(h c hc).1
def iY(t:Int):Bool:=decide (1<=t)&&decide (t<=1099511627776)
def fE(t:Int)(k:ByteArray)(v:Vl)(g g':az)(e:Int):Prop:=
 ((iY t=false\/bp k=false\/bq v=false)/\e=1/\g'=g)\/
 ((iY t=true/\bp k=true/\bq v=true)/\fV g.2 t k/\e=9/\g'=g)\/
 ((iY t=true/\bp k=true/\bq v=true)/\¬fV g.2 t k/\e=0/\g'.2=if dX g.2 k v then bZ g.2 (vR g.2 t k v)else ia g.2 k)\/
 ((iY t=true/\bp k=true/\bq v=true)/\¬fV g.2 t k/\e=4/\g'=g/\20<=g.2.length/\dX g.2 k v)
theorem jA{l:List Cell}(hl:kD l){t:Int}{k:ByteArray}{v:Vl}(h:iY t=true/\bp k=true/\bq v=true):aA (vR l t k v)=true:=by
 obtain⟨h1,h2,h3⟩:=h
 unfold iY at h1
 simp only[Bool.and_eq_true,decide_eq_true_eq]at h1
 refine rE h2 ?_ h3 (by show 0<=t;omega) h1.2 (.inl (by show 0<t;omega))
 show bq ((cq l k).getD noCell).val=true
 cases hg:cq l k with
 |none=>exact rF
 |some c=>exact(lU (hl c (dZ hg).1).1).2.1
theorem oK{l:List Cell}(hl:kD l){t:Int}{k:ByteArray}{v:Vl}(h:v.f<2^64):(vR l t k v).val.f<2^64/\(vR l t k v).new.f<2^64:=by
 refine⟨?_,h⟩
 exact(GN hl.fl k).1
end Go.Pl
end
section
namespace Go.Pl
open Go Go.Sx
def jw(t:Int)(l:List Cell):Prop:=∀c∈l,c.aV=t/\c.val=aW
theorem jw.nil(t:Int):jw t []:=fun _ h=>by cases h
theorem jw.free{t:Int}{l:List Cell}(h:jw t l)(k:ByteArray):¬fV l t k:=by
 rintro⟨c,hc,_,h2⟩;exact h2 (h c (dZ hc).1).1
theorem jw.val{t:Int}{l:List Cell}(h:jw t l)(k:ByteArray):((cq l k).getD noCell).val=aW:=by
 cases hg:cq l k with
 |none=>rfl
 |some c=>exact(h c (dZ hg).1).2
theorem jw.write{t:Int}{g g':az}(h:jw t g.2)(hr:rising (keysOf g.2)){k:ByteArray}{v:Vl}{e:Int}(hw:fE t k v g g' e):jw t g'.2:=by
 rcases hw with⟨_,_,rfl⟩|⟨_,_,_,rfl⟩|⟨_,_,_,h2⟩|⟨_,_,_,rfl,_⟩
 . exact h
 . exact h
 . rw[h2]
   split
   . intro c hc
     rcases(eB hr).1 hc with rfl|⟨hc,_⟩
     . exact⟨rfl,h.val k⟩
     . exact h c hc
   . intro c hc;exact h c ((eG _ k c).1 hc).1
 . exact h
end Go.Pl
end
section
namespace Go.Pl
open Go Go.Sx
theorem Cu{t:Int}{k:ByteArray}{v:Vl}{g g':az}{e:Int}(h:fE t k v g g' e)(hok:iY t=true/\bp k=true/\bq v=true)(hb:¬fV g.2 t k)(hl:g.2.length<20):e=0/\g'.2=if dX g.2 k v then bZ g.2 (vR g.2 t k v)else ia g.2 k:=by
 rcases h with⟨h1|h1|h1,_⟩|⟨_,h2,_⟩|⟨_,_,h1,h2⟩|⟨_,_,_,_,h1,_⟩
 . rw[hok.1]at h1;cases h1
 . rw[hok.2.1]at h1;cases h1
 . rw[hok.2.2]at h1;cases h1
 . exact absurd h2 hb
 . exact⟨h1,h2⟩
 . omega
theorem Aa{t:Int}{k:ByteArray}{v:Vl}{g g':az}{e:Int}(h:fE t k v g g' e)(hok:iY t=true/\bp k=true/\bq v=true)(hb:fV g.2 t k):e=9/\g'=g:=by
 rcases h with⟨h1|h1|h1,_⟩|⟨_,_,h1,h2⟩|⟨_,h2,_⟩|⟨_,h2,_⟩
 . rw[hok.1]at h1;cases h1
 . rw[hok.2.1]at h1;cases h1
 . rw[hok.2.2]at h1;cases h1
 . exact⟨h1,h2⟩
 . exact absurd hb h2
 . exact absurd hb h2
def kK:ByteArray:=⟨#[107]⟩
def vF:Vl:=⟨1,4611686018427387904,⟨#[]⟩⟩
def cK:Cell:=⟨kK,aW,1,vF⟩
theorem GS{g:az}{e:Int}(h:fE 1 kK vF ([],[]) g e):e=0/\g.2=[cK]:=by
 obtain⟨h1,h2⟩:=Cu h ⟨by decide,by decide,by decide⟩ (fun⟨c,hc,_⟩=>by cases hc) (by show 0<20;decide)
 refine⟨h1,h2.trans ?_⟩
 rw[if_pos (.inl (by decide)),<-tE (l:=[]) List.Pairwise.nil];decide
theorem GU{g g':az}{e:Int}(hg:g.2=[cK])(h:fE 2 kK vF g g' e):e=9/\g'=g:=
 Aa h ⟨by decide,by decide,by decide⟩ ⟨cK,by rw[hg];decide,by decide,by decide⟩
theorem Nc:oF [cK] 1 kK=vF:=by decide
theorem Nf:oF [cK] 2 kK=aW:=by decide
theorem Ng:pV [cK] (fun x=>decide (x=1))=1:=by decide
theorem Nh:ue [cK] (fun x=>decide (x=1)) cR=[⟨kK,vF,0,aW⟩]:=by decide
theorem Ni:oF [⟨kK,vF,0,aW⟩] 0 kK=vF:=by decide
theorem lX(v:Vl):BB v v=true:=by unfold BB;simp
theorem xh{l:List Cell}(h:C8 l)(t:Int)(a b:ByteArray):∀p∈iJ l t a b,p.2.f<2^64:=fun p hp=>by
 unfold iJ at hp
 obtain⟨c,hc,IK⟩:=List.mem_filterMap.1 hp
 have jq:=h c (List.mem_filter.1 hc).1
 unfold dn at IK
 split at IK
 . cases IK
 . injection IK with IK;subst IK
   show(iw c t).f<2^64
   unfold iw;split
   . exact jq.2
   . exact jq.1
theorem Ks{l:List Cell}(h:C8 l)(t:Int)(k:ByteArray):(oF l t k).f<2^64:=by
 unfold oF
 cases hg:cq l k with
 |none=>show(0:Nat)<2^64;decide
 |some c=>
  have:=h c (dZ hg).1
  show(iw c t).f<2^64
  unfold iw;split
  . exact this.2
  . exact this.1
theorem o6(l:List Cell)(t:Int)(a b:ByteArray):(iJ l t a b).length<=l.length:=Nat.le_trans (List.length_filterMap_le _ _) (List.length_filter_le _ _)
end Go.Pl
end
section
namespace Go.Pl
open Go Go.Sx
def jx(f:Nat->ByteArray)(i n:Nat)(l:List Cell):Prop:=∀c∈l,∃q,i<=q/\q<n/\c.key=f q
theorem jx.write{f:Nat->ByteArray}{n:Nat}{g g':az}{t:Int}{v:Vl}{e:Int}(hr:rising (keysOf g.2))(h:jx f 0 n g.2)(hw:fE t (f n) v g g' e):jx f 0 (n+1) g'.2:=by
 have up:jx f 0 (n+1) g.2:=fun c hc=>by obtain⟨q,h1,h2,h3⟩:=h c hc;exact⟨q,h1,by omega,h3⟩
 rcases hw with⟨_,_,rfl⟩|⟨_,_,_,rfl⟩|⟨_,_,_,h2⟩|⟨_,_,_,rfl,_⟩
 . exact up
 . exact up
 . rw[h2]
   split
   . intro c hc
     rcases(eB hr).1 hc with rfl|⟨hc,_⟩
     . exact⟨n,by omega,by omega,rfl⟩
     . exact up c hc
   . intro c hc;exact up c ((eG _ _ c).1 hc).1
 . exact up
theorem jx.cut{f:Nat->ByteArray}{i n:Nat}{l:List Cell}(h:jx f i n l):jx f (i+1) n (ia l (f i)):=fun c hc=>by
 obtain⟨h1,h2⟩:=(eG l _ c).1 hc
 obtain⟨q,h3,h4,h5⟩:=h c h1
 exact⟨q,by have:q≠i:=fun e=>h2 (by rw[h5,e]);omega,h4,h5⟩
theorem jx.none{f:Nat->ByteArray}{n:Nat}{l:List Cell}(h:jx f n n l):l=[]:=by
 refine List.eq_nil_iff_forall_not_mem.2 fun c hc=> ?_
 obtain⟨q,h1,h2,_⟩:=h c hc;omega
end Go.Pl
end
section
namespace Go.Sx
open Go
section
variable[aq]{X:Cx}{k:cU}{R:dN}{hs:List Chunk}{ops:Array Oper}{l:List Oper}{T:aB}{d ty':Nat}{pos:String}{after:Array Edge}{gd:Option (Nat×Bool)}
end
end Go.Sx
namespace Go.Pl
open Go Go.Sx
structure IQ where
 kind:Int
 aV:Int
 key:ByteArray
 to:ByteArray
 val:Vl
def cv(x:IQ):List Value:= .int .i64 x.kind:: .int .i64 x.aV:: .string x.key:: .string x.to::bA x.val
def UI(l:List IQ):Prop:=∀x∈l,x.val.f<2^64
end Go.Pl
end
section
namespace Go.Pl
open Go Go.Sx
def Ot(ow:List aP)(k:ByteArray)(z:Int):Prop:=(∃(i:Nat) (o:aP),z=(i:Nat)/\ow[i]? =some o/\o.key=k)\/(z= -1/\∀o∈ow,o.key≠k)
theorem jl{α:Type}{l:List α}{i:Nat}{x:α}(h:l[i]? =some x):l.take (i+1)=l.take i++[x]:=by rw[List.take_add_one,h,Option.toList_some]
theorem o8{d:List bE}{ow:List aP}{t:Int}{i:Nat}{o:aP}(h:ow[i]? =some o):ke d (ow.take (i+1)) t=cX t (ke d (ow.take i) t) o:=by
 unfold ke;rw[jl h,List.foldl_append];rfl
theorem Cv(k:ByteArray)(d:List bE):(d.filter fun x=>bY x.1 k).length+(d.filter fun x=>bY k x.1).length<=d.length:=by
 induction d with
 |nil=>exact Nat.le_refl _
 |cons x d ih=>
  rw[List.filter_cons,List.filter_cons,List.length_cons]
  by_cases h:bY x.1 k=true
  . rw[if_pos h,if_neg (by rw[cL h];simp),List.length_cons];omega
  . rw[if_neg h]
    by_cases h2:bY k x.1=true
    . rw[if_pos h2]
      exact Nat.succ_le_succ ih
    . rw[if_neg h2]
      exact Nat.le_succ_of_le ih
theorem xk{d:List bE}{k:ByteArray}{v:Vl}(hr:rising (cI d)):(iP d k v).length<=d.length+1:=by
 by_cases h:v.kind=0
 . rw[o4 h];exact Nat.le_trans (List.length_filter_le _ _) (Nat.le_succ _)
 . rw[o5 hr h,List.length_append,List.length_cons]
   exact Nat.succ_le_succ (Cv k d)
theorem xV{t:Int}{d:List bE}{o:aP}(hr:rising (cI d)):(cX t d o).length<=d.length+1:=by
 unfold cX;split
 . exact xk hr
 . exact Nat.le_succ _
theorem kS{t:Int}:∀{ow:List aP} {d:List bE},rising (cI d)->(ke d ow t).length<=d.length+ow.length
 |[],d,_=>Nat.le_refl _
 |o::ow,d,h=>by
  have h1:=kS (t:=t) (ow:=ow) (h_ (t:=t) (o:=o) h)
  have h2:=xV (t:=t) (o:=o) h
  show(ke (cX t d o) ow t).length<=_
  rw[List.length_cons];omega
theorem xW{d:List bE}{ow:List aP}{t:Int}(h:rising (cI d))(i:Nat):(ke d (ow.take i) t).length<=d.length+ow.length:=by
 have h1:=kS (t:=t) (ow:=ow.take i) h
 have h2:=List.length_take_le i ow
 have:(ow.take i).length<=ow.length:=by rw[List.length_take];omega
 omega
theorem gY{ow:List aP}{t:Int}{i:Nat}{o:aP}(h:ow[i]? =some o):kE (ow.take (i+1)) t=if eV t o.aV=true then kE (ow.take i) t else kE (ow.take i) t++[o]:=by
 unfold kE;rw[jl h,List.filter_append,List.filter_cons]
 cases eV t o.aV<;>simp
theorem gZ{ow:List aP}{t:Int}{i:Nat}{o:aP}(h:ow[i]? =some o):kF (ow.take (i+1)) t=if eV t o.aV=true then kF (ow.take i) t+1 else kF (ow.take i) t:=by
 unfold kF;rw[jl h,List.filter_append,List.filter_cons]
 cases eV t o.aV<;>simp
theorem g_{d:List bE}{ow:List aP}{t:Int}{cm:Bool}{i:Nat}{o:aP}(h:ow[i]? =some o):fB d (ow.take (i+1)) t cm=if eV t o.aV=true/\cm=true then iP (fB d (ow.take i) t cm) o.key o.val else fB d (ow.take i) t cm:=by
 unfold fB;rw[jl h,List.filter_append,List.filter_cons]
 cases eV t o.aV<;>cases cm<;>simp
theorem Cw{d:List bE}{t:Int}{cm:Bool}(hd:rising (cI d)):∀{ow:List aP},(fB d ow t cm).length<=d.length+ow.length:=by
 have key:∀(os:List aP) (d:List bE),rising (cI d)->(os.foldl (fun d o=>if cm=true then iP d o.key o.val else d) d).length<=d.length+os.length:=by
  intro os
  induction os with
  |nil=>intro d _;exact Nat.le_refl _
  |cons o os ih=>
   intro d h
   rw[List.foldl_cons,List.length_cons]
   by_cases hc:cm=true
   . rw[if_pos hc]
     have h1:=ih (iP d o.key o.val) (eT h)
     have h2:=xk (k:=o.key) (v:=o.val) h
     omega
   . rw[if_neg hc]
     have:=ih d h;omega
 intro ow
 unfold fB
 have h1:=key (ow.filter fun o=>eV t o.aV) d hd
 have h2:=List.length_filter_le (fun o=>eV t o.aV) ow
 omega
theorem vf{d:List bE}{ow:List aP}{t:Int}{cm:Bool}(hd:rising (cI d))(i:Nat):(fB d (ow.take i) t cm).length<=d.length+ow.length:=by
 have h1:=Cw (t:=t) (cm:=cm) hd (ow:=ow.take i)
 have:(ow.take i).length<=ow.length:=by rw[List.length_take];omega
 omega
theorem lY(ow:List aP)(t:Int):(kE ow t).length<=ow.length:=List.length_filter_le _ _
theorem Cy(ow:List aP)(t:Int):kF ow t<=ow.length:=List.length_filter_le _ _
theorem Bk{ow:List aP}{k:ByteArray}{i:Nat}{o:aP}(hn:(ow.map aP.key).Nodup)(h:ow[i]? =some o)(hk:o.key=k):ow.filter (fun x=>decide (x.key≠k))=ow.take i++ow.drop (i+1):=by
 induction ow generalizing i with
 |nil=>cases h
 |cons x ow ih=>
  have hn':=List.nodup_cons.1 (by simpa using hn:(x.key::ow.map aP.key).Nodup)
  cases i with
  |zero=>
   have h:x=o:=by simpa using h
   subst h
   rw[List.filter_cons,if_neg (by simp[hk])]
   simp only[List.take_zero,List.drop_succ_cons,List.drop_zero,List.nil_append]
   exact List.filter_eq_self.2 fun y hy=>decide_eq_true fun e=>hn'.1 (by rw[hk,<-e];exact List.mem_map.2 ⟨y,hy,rfl⟩)
  |succ i=>
   have h:ow[i]? =some o:=by simpa using h
   have hne:x.key≠k:=fun e=>hn'.1 (by rw[e,<-hk];exact List.mem_map.2 ⟨o,List.mem_of_getElem? h,rfl⟩)
   rw[List.filter_cons,if_pos (decide_eq_true hne),ih hn'.2 h];rfl
theorem xl{ow:List aP}{k:ByteArray}(h:∀o∈ow,o.key≠k):ow.filter (fun x=>decide (x.key≠k))=ow:=List.filter_eq_self.2 fun y hy=>decide_eq_true (h y hy)
theorem qx{ow:List aP}{k:ByteArray}{v:Vl}{i:Nat}{o:aP}(hn:(ow.map aP.key).Nodup)(h:ow[i]? =some o)(hk:o.key=k):(ow.map fun x=>if x.key=k then{x with val:=v}else x)=ow.set i {o with val:=v}:=by
 induction ow generalizing i with
 |nil=>cases h
 |cons x ow ih=>
  have hn':=List.nodup_cons.1 (by simpa using hn:(x.key::ow.map aP.key).Nodup)
  cases i with
  |zero=>
   have h:x=o:=by simpa using h
   subst h
   rw[List.map_cons,if_pos hk,List.set_cons_zero]
   congr 1
   conv=>rhs;rw[<-List.map_id ow]
   refine List.map_congr_left fun y hy=> ?_
   exact if_neg fun e=>hn'.1 (by rw[hk,<-e];exact List.mem_map.2 ⟨y,hy,rfl⟩)
  |succ i=>
   have h:ow[i]? =some o:=by simpa using h
   have hne:x.key≠k:=fun e=>hn'.1 (by rw[e,<-hk];exact List.mem_map.2 ⟨o,List.mem_of_getElem? h,rfl⟩)
   rw[List.map_cons,if_neg hne,ih hn'.2 h];rfl
theorem jI{d:List bE}{ow:List aP}{o:aP}(hk:o.val.kind=0)(hd:bO d o.key=none):cY d ow o=ow.filter fun x=>decide (x.key≠o.key):=if_pos ⟨hk,hd⟩
theorem jJ{d:List bE}{ow:List aP}{o p:aP}(h:¬(o.val.kind=0/\bO d o.key=none))(hp:p∈ow)(hk:p.key=o.key):cY d ow o=ow.map fun x=>if x.key=o.key then{x with val:=o.val}else x:=by
 unfold cY
 rw[if_neg h]
 refine if_pos ?_
 cases ha:bN ow o.key with
 |some _=>rfl
 |none=>exact absurd hk (dx.1 ha p hp)
theorem jK{d:List bE}{ow:List aP}{o:aP}(h:¬(o.val.kind=0/\bO d o.key=none))(hn:∀p∈ow,p.key≠o.key):cY d ow o=ow++[o]:=by
 unfold cY
 rw[if_neg h,dx.2 hn];rfl
theorem so(d:List bE)(ow:List aP)(o:aP):(cY d ow o).length<=ow.length+1:=by
 unfold cY
 split
 . exact Nat.le_trans (List.length_filter_le _ _) (Nat.le_succ _)
 . split
   . rw[List.length_map];exact Nat.le_succ _
   . simp
theorem nh.all{d:List bE}{ow:List aP}{l:List Cell}(h:nh d ow l)(t:Int):iJ l t ⟨#[]⟩ ⟨#[]⟩=ke d ow t:=by
 rw[h.range]
 refine List.filter_eq_self.2 fun p _=> ?_
 exact mL
theorem nh.busy{d:List bE}{ow:List aP}{l:List Cell}(h:nh d ow l){t:Int}{k:ByteArray}{z:Int}(hz:Ot ow k z):fV l t k↔∃(i:Nat) (o:aP),z=(i:Nat)/\ow[i]? =some o/\o.aV≠t:=by
 have hc:=h.cell k
 unfold e_ at hc
 rcases hz with⟨i,o,rfl,hi,hk⟩|⟨rfl,hn⟩
 . have ho:bN ow k=some o:=by rw[<-hk];exact lV h.once (List.mem_of_getElem? hi)
   rw[ho]at hc
   dsimp only at hc
   have ht:=h.own o (List.mem_of_getElem? hi)
   constructor
   . rintro⟨c,h1,_,h3⟩
     rw[hc]at h1;injection h1 with h1;subst h1
     exact⟨i,o,rfl,hi,h3⟩
   . rintro⟨j,p,h1,h2,h3⟩
     have:i=j:=by omega
     subst this
     rw[hi]at h2;injection h2 with h2;subst h2
     exact⟨_,hc,by show o.aV≠0;omega,h3⟩
 . rw[dx.2 hn]at hc
   dsimp only at hc
   constructor
   . rintro⟨c,h1,h2,_⟩
     rw[hc]at h1
     cases hv:bO d k with
     |none=>rw[hv]at h1;cases h1
     |some v=>rw[hv]at h1;injection h1 with h1;subst h1;exact absurd rfl h2
   . rintro⟨i,_,h1,_⟩;omega
theorem nh.Mv{d:List bE}{ow:List aP}{l:List Cell}(h:nh d ow l):d.length<=l.length:=by
 have h0:∀(os:List aP) (d:List bE),ke d os 0=d:=fun os=>by
  induction os with
  |nil=>intro d;rfl
  |cons o os ih=>intro d;show ke (cX 0 d o) os 0=d;rw[show cX 0 d o=d from if_neg (by omega)];exact ih d
 have:=h.all 0
 rw[h0]at this
 rw[<-this];exact o6 _ _ _ _
theorem xm{t:Int}(ht:iY t=true):eV t=fun x=>decide (x=t):=by
 unfold iY at ht
 simp only[Bool.and_eq_true,decide_eq_true_eq]at ht
 funext x;unfold eV
 rw[decide_eq_decide];constructor
 . rintro(h|h)
   . omega
   . exact h
 . exact .inr
theorem Cz:eV 0=fun _=>true:=by
 funext x;unfold eV;exact decide_eq_true (.inl (by omega))
def ay(x:IQ):IQ:={x with key:=Bz x.key 20,to:=Bz x.to 20,val:=HY x.val}
end Go.Pl
end
section
namespace Go.Pl
open Go Go.Sx
def DO(t:Int)(k:ByteArray)(v:Vl)(l:List Cell)(w:Int):Prop:=
 ((iY t=false\/bp k=false\/bq v=false)/\w=1)\/
 ((iY t=true/\bp k=true/\bq v=true)/\fV l t k/\w=9)\/
 ((iY t=true/\bp k=true/\bq v=true)/\¬fV l t k/\w=0)
theorem uR{t:Int}{k:ByteArray}{v:Vl}(h:iY t=false\/bp k=false\/bq v=false)(h2:iY t=true/\bp k=true/\bq v=true):False:=by
 rcases h with h|h|h
 . rw[h2.1]at h;cases h
 . rw[h2.2.1]at h;cases h
 . rw[h2.2.2]at h;cases h
theorem DO.write{t:Int}{k:ByteArray}{v:Vl}{g g':az}{e w:Int}(hw:DO t k v g.2 w)(h:fE t k v g g' e):e=w\/(w=0/\e=4):=by
 rcases hw with⟨a,rfl⟩|⟨a,b,rfl⟩|⟨a,b,rfl⟩
 . rcases h with⟨_,rfl,_⟩|⟨c,_⟩|⟨c,_⟩|⟨c,_⟩
   . exact .inl rfl
   all_goals exact(uR a c).elim
 . rcases h with⟨c,_⟩|⟨_,_,rfl,_⟩|⟨_,c,_⟩|⟨_,c,_⟩
   . exact(uR c a).elim
   . exact .inl rfl
   all_goals exact(c b).elim
 . rcases h with⟨c,_⟩|⟨_,c,_⟩|⟨_,_,rfl,_⟩|⟨_,_,rfl,_⟩
   . exact(uR c a).elim
   . exact(b c).elim
   . exact .inl rfl
   . exact .inr ⟨rfl,rfl⟩
theorem fE.stays{t:Int}{k:ByteArray}{v:Vl}{g g':az}{e:Int}(h:fE t k v g g' e)(he:e≠0):g'=g:=by
 rcases h with⟨_,_,h⟩|⟨_,_,_,h⟩|⟨_,_,h,_⟩|⟨_,_,_,h,_⟩
 . exact h
 . exact h
 . exact(he h).elim
 . exact h
theorem fE.book{t:Int}{k:ByteArray}{v:Vl}{g g':az}{e:Int}{d:List bE}{ow:List aP}(h:fE t k v g g' e)(hB:nh d ow g.2)(hg:kD g.2)(he:e=0):nh d (cY d ow ⟨t,k,v⟩) g'.2:=by
 subst he
 rcases h with⟨_,h,_⟩|⟨_,_,h,_⟩|⟨a,b,_,h⟩|⟨_,_,h,_⟩
 . cases h
 . cases h
 . have ht:=a.1
   unfold iY at ht
   simp only[Bool.and_eq_true,decide_eq_true_eq]at ht
   rw[h]
   exact hB.write (o:=⟨t,k,v⟩) (show 0<t by omega) b (jA hg a)
 . cases h
theorem nh.free{d:List bE}{ow:List aP}{l:List Cell}(h:nh d ow l){t:Int}{k:ByteArray}{q:Nat}{o:aP}(hz:Ot ow k (q:Nat))(ho:ow[q]? =some o)(ht:o.aV=t):¬fV l t k:=fun hb=>by
 obtain⟨i,p,h1,h2,h3⟩:=(h.busy hz).1 hb
 obtain rfl:q=i:=by omega
 rw[ho]at h2;injection h2 with h2;subst h2;exact h3 ht
theorem nh.Nj{d:List bE}{ow:List aP}{l:List Cell}(h:nh d ow l){t:Int}{k:ByteArray}(hz:Ot ow k (-1)):¬fV l t k:=fun hb=>by
 obtain⟨i,p,h1,_⟩:=(h.busy hz).1 hb;omega
def Mw(t:Int)(how:Cell->Cell×Bool)(g g':az)(n e:Int):Prop:=
 (iY t=false/\n=0/\e=1/\g'=g)\/(iY t=true/\n=(pV g.2 (fun x=>decide (x=t)):Nat)/\e=0/\g'.2=ue g.2 (fun x=>decide (x=t)) how)
end Go.Pl
end
