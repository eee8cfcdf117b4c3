/- Part 5 of what the proofs of these rest on: Pages, None, Open. -/
import Derived.Test.YtihpkgmfkbkffaaGreatZD
import Derived.Test.YtihpkgmfkbkffaaGreatZC
import Derived.Test.YtihpkgmfkbkffaaGreatZB
import Derived.KernelRfl
set_option linter.unusedVariables false
set_option linter.unusedSimpArgs false
set_option linter.unusedSectionVars false
section
namespace Go.Pl
open Go Go.Sx
def Fg(x:Cell)(l:List Cell):Prop:=∀c∈l,c.key=x.key->(ax c).length<(ax x).length
def CG(x:Cell)(g g':aG)(e:Int):Prop:=
 (aC x=false/\e=1/\g'=g)\/(aC x=true/\e=0/\g'.2=b5 g.2 x/\((∃c∈g.2,c.key=x.key/\(ax x).length<=(ax c).length)->g'.1=g.1))\/
 (aC x=true/\e=4/\g'=g/\28<=g.1.length/\20<=g.2.length/\Fg x g.2)
theorem aU.Ex{Q Q':ah}{g:aG}(h:aU Q g){x:Cell}(hx:aC x=true)(gA:x.val.f<2^64/\x.new.f<2^64)(hp:dg Q x= .ok Q'):
 ∃g',aU Q' g'/\g'.2=b5 g.2 x/\((∃c∈g.2,c.key=x.key/\(ax x).length<=(ax c).length)->g'.1=g.1):=by
 by_cases hc:∃c∈g.2,c.key=x.key/\(ax x).length<=(ax c).length
 . obtain⟨c,Ta,GB,Vx⟩:=hc
   obtain⟨Q2,g',h1,h2,h3,h4⟩:=h.place hx gA Ta GB Vx
   rw[hp]at h1;injection h1 with h1;subst h1
   exact⟨g',h2,vQ h.rising h2.rising h3,fun _=>h4⟩
 . rcases h.put hx gA with⟨Q2,g',h1,h2,h3⟩|⟨h1,_⟩
   . rw[hp]at h1;injection h1 with h1;subst h1
     exact⟨g',h2,vQ h.rising h2.rising h3,fun h=>absurd h hc⟩
   . rw[hp]at h1;cases h1
theorem aU.KD{Q:ah}{g:aG}(h:aU Q g){x:Cell}(hx:aC x=true)(gA:x.val.f<2^64/\x.new.f<2^64){e:Int}(hp:dg Q x= .error e):
 e=4/\28<=g.1.length/\20<=g.2.length/\Fg x g.2:=by
 rcases h.put hx gA with⟨Q2,g',h1,_⟩|⟨h1,h2,h3⟩
 . rw[hp]at h1;cases h1
 . rw[hp]at h1;injection h1 with h1
   refine⟨h1,h2,h3,fun c hc hk=> ?_⟩
   refine Nat.lt_of_not_le fun hl=> ?_
   obtain⟨Q2,g',h4,_⟩:=h.place hx gA hc hk hl
   rw[hp]at h4;cases h4
theorem aU.Ey{Q Q':ah}{g:aG}(h:aU Q g){k:ByteArray}{has:Bool}(hp:cN Q k= .ok (has,Q')):∃g',aU Q' g'/\g'.2=iq g.2 k/\has=(cz g.2 k).isSome/\g'.1.length<=g.1.length:=by
 rcases h.del k with⟨h1,h2⟩|⟨Q2,g',h1,h2,h3,h4,h5⟩
 . rw[hp]at h1;injection h1 with h1;injection h1 with h1 h3;subst h1 h3
   exact⟨g,h,(uT h2).symm,by rw[jN h2];rfl,Nat.le_refl _⟩
 . rw[hp]at h1;injection h1 with h1;injection h1 with h1 h6;subst h1 h6
   exact⟨g',h2,LF h.rising h2.rising h3,(qg.2 h4).symm,h5⟩
theorem aU.KF{Q:ah}{g:aG}(h:aU Q g){k:ByteArray}{e:Int}:cN Q k≠.error e:=by
 rcases h.del k with⟨h1,_⟩|⟨Q2,g',h1,_⟩<;>rw[h1]<;>intro h<;>cases h
theorem aU.Nz{Q:ah}{g:aG}(h:aU Q g){k:ByteArray}{o:Option Cell}(hp:getTop (aK Q) k= .ok o):o=cz g.2 k:=by
 obtain⟨o2,h1,h2⟩:=h.get k
 rw[hp]at h1;injection h1 with h1;subst h1
 exact Ck h.rising h2
theorem aU.NA{Q:ah}{g:aG}(h:aU Q g){k:ByteArray}{e:Int}:getTop (aK Q) k≠.error e:=by
 obtain⟨o2,h1,h2⟩:=h.get k
 rw[h1];intro h;cases h
theorem lq.Ex{Qb Q Q':ah}{g:aG}(h:lq Qb Q g){x:Cell}(hx:aC x=true)(gA:x.val.f<2^64/\x.new.f<2^64)(hp:dg Q x= .ok Q'):
 ∃g',lq Qb Q' g'/\g'.2=b5 g.2 x/\((∃c∈g.2,c.key=x.key/\(ax x).length<=(ax c).length)->g'.1=g.1):=by
 obtain⟨g',h1,h2,h3⟩:=h.right.Ex hx gA hp
 exact⟨g',⟨h1,h.off.trans (eV.dg hp)⟩,h2,h3⟩
theorem lq.Ey{Qb Q Q':ah}{g:aG}(h:lq Qb Q g){k:ByteArray}{has:Bool}(hp:cN Q k= .ok (has,Q')):∃g',lq Qb Q' g'/\g'.2=iq g.2 k/\has=(cz g.2 k).isSome/\g'.1.length<=g.1.length:=by
 obtain⟨g',h1,h2⟩:=h.right.Ey hp
 exact⟨g',⟨h1,h.off.trans (eV.cN hp)⟩,h2⟩
def mU(l:List Cell):Prop:=∀c∈l,aC c=true/\c.val.f<2^64/\c.new.f<2^64
theorem fe{l:List Cell}(h:rising (keysOf l)){x c:Cell}:c∈b5 l x↔c=x\/(c∈l/\c.key≠x.key):=(lG h x).2 c
theorem lS{l:List Cell}(h:rising (keysOf l))(x:Cell):rising (keysOf (b5 l x)):=(lG h x).1
theorem Fh(l:List Cell):(l.filter fun c=>bW c.key ⟨#[]⟩ ⟨#[]⟩)=l:=List.filter_eq_self.2 fun _ _=>pR
theorem aU.small{Q:ah}{g:aG}(h:aU Q g):g.2.length<=8192:=by
 have:=(oN h.all).2
 exact this
theorem gi.small{sT b:Nat}{P:Value}{I:Chunk->Prop}{Qb:ah}{g:aG}{H:Chunk}(h:gi sT b P I Qb g H):g.1.length<=30/\g.2.length<=8192/\rising (keysOf g.2)/\g.1.Nodup/\(∀m∈g.1,ay m):=by
 obtain⟨Q,_,h,_⟩:=h
 exact⟨h.iZ,h.small,h.rising,h.nodup,h.may⟩
theorem gi.any{sT b:Nat}{P:Value}{I:Chunk->Prop}{Qb:ah}{g:aG}{H:Chunk}(h:gi sT b P I Qb g H)(h0:0<g.2.length):0<g.1.length:=by
 obtain⟨Q,_,h,_⟩:=h
 rcases Nat.eq_zero_or_pos g.1.length with h1|h1
 . have:=h.some (List.length_eq_zero_iff.1 h1);rw[this]at h0;exact absurd h0 (Nat.lt_irrefl 0)
 . exact h1
theorem gi.nil{sT b:Nat}{P:Value}{I:Chunk->Prop}{Qb:ah}{g:aG}{H:Chunk}(h:gi sT b P I Qb g H)(h0:g.2=[]):g=([],[]):=by
 obtain⟨Q,_,h,_⟩:=h
 exact h.none h0
def tu:ah:=fun _=>dO 256
theorem gC:cQ tu:=fun _ _=>dS 256
end Go.Pl
end
section
namespace Go.Sx
open Go
section
variable[au]{X:Cx}{k:dx}{R:ee}{hs:List Chunk}{ops:Array Oper}{l:List Oper}{T:aE}{d ty':Nat}{pos:String}{after:Array Edge}{gd:Option (Nat×Bool)}
theorem OT.Qp{x y:Operand}{t t2:Nat}{u:Nat}(hu:qB u=false)(hg:dX ops R gd=some true)(hx:ev R x=some (.float .f64 u))(hy:ev R y=some (.float .f64 u))(hdn:Nat.ble (d+1) X.n=true)
 (h:OT X ops l k ((d,.bool true)::R) hs):OT X ops (⟨some d,.binOp .eql t x y t2,ty',pos,after,gd⟩::l) k R hs:=by
 refine OT.value hg rfl hdn fun a w ha hm=>⟨_,hs,w,?_,hm,h⟩
 have h1:=sM u
 rw[hu]at h1
 have h2:(FloatKind.f64.format.order u u==some .eq)=true:=by
  unfold bne at h1;simpa using h1
 simp only[execOp,ha.ev hx,ha.ev hy]
 simp[eqGuard,binOp,Op.floatCmp,h2]
end
end Go.Sx
namespace Go.Pl
open Go Go.Sx
def kA:ByteArray:=⟨#[97]⟩
def kB:ByteArray:=⟨#[98]⟩
def cA:Cell:=⟨kA,⟨2,0,⟨#[120]⟩⟩,0,bq⟩
def cB:Cell:=⟨kB,⟨1,4611686018427387904,⟨#[]⟩⟩,0,bq⟩
theorem wj:qB 4611686018427387904=false:=by unfold qB;decide
theorem LG{g:aG}{e:Int}(h:CG cB ([],[]) g e):e=0/\g.2=[cB]:=by
 have hm:aC cB=true:=by decide
 rcases h with⟨h,_⟩|⟨_,h1,h2,_⟩|⟨_,_,_,h,_⟩
 . rw[hm]at h;cases h
 . exact⟨h1,h2⟩
 . exact absurd h (by decide)
theorem LH{g g':aG}{e:Int}(hg:g.2=[cB])(h:CG cA g g' e):e=0/\g'.2=[cA,cB]:=by
 have hm:aC cA=true:=by decide
 rcases h with⟨h,_⟩|⟨_,h1,h2,_⟩|⟨_,_,_,_,h,_⟩
 . rw[hm]at h;cases h
 . refine⟨h1,?_⟩
   rw[h2,hg,<-uU (l:=[cB]) (c:=cA) (show rising [kB]from List.pairwise_singleton _ _)];decide
 . rw[hg]at h;exact absurd h (by decide)
theorem LI{g g':aG}{e:Int}(h:CG noCell g g' e):e=1:=by
 have hm:aC noCell=false:=by decide
 rcases h with⟨_,h,_⟩|⟨h,_⟩|⟨h,_⟩
 . exact h
 . rw[hm]at h;cases h
 . rw[hm]at h;cases h
theorem DD:cz [cA,cB] kB=some cB:=by decide
theorem DE:cz [cA,cB] kA=some cA:=by decide
end Go.Pl
end
section
namespace Go.Pl
open Go Go.Sx
def iV(f:Nat->Cell):Nat->List Cell
 |0=>[]
 |i+1=>b5 (iV f i) (f i)
theorem kL(f:Nat->Cell):∀i,rising (keysOf (iV f i))
 |0=>List.Pairwise.nil
 |i+1=>lS (kL f i) _
theorem uV{f:Nat->Cell}:∀{i:Nat} {c:Cell},c∈iV f i->∃j,j<i/\c=f j
 |0,c,h=>by cases h
 |i+1,c,h=>by
  rcases(fe (kL f i)).1 h with h|⟨h,_⟩
  . exact⟨i,by omega,h⟩
  . obtain⟨j,h1,h2⟩:=uV h;exact⟨j,by omega,h2⟩
theorem uW{f:Nat->Cell}:∀{i j:Nat},j<i->(∀k,j<k->k<i->(f k).key≠(f j).key)->f j∈iV f i
 |0,j,h,_=>by omega
 |i+1,j,h,hk=>by
  refine(fe (kL f i)).2 ?_
  by_cases e:j=i
  . exact .inl (by rw[e])
  . exact .inr ⟨uW (by omega) fun k h1 h2=>hk k h1 (by omega),fun h2=>hk i (by omega) (by omega) h2.symm⟩
theorem mg{x:Cell}{g g':aG}{e:Int}(hm:aC x=true)(h:CG x g g' e):(e=0/\g'.2=b5 g.2 x)\/(e=4/\g'=g/\28<=g.1.length/\20<=g.2.length):=by
 rcases h with⟨h,_⟩|⟨_,h1,h2,_⟩|⟨_,h1,h2,h3,h4,_⟩
 . rw[hm]at h;cases h
 . exact .inl ⟨h1,h2⟩
 . exact .inr ⟨h1,h2,h3,h4⟩
def xE(k v:Nat):Cell:=⟨RZ k,R1 v,0,bq⟩
end Go.Pl
end
section
namespace Go.Pl
open Go Go.Sx
def og(f:Nat->Cell)(i n:Nat)(l:List Cell):Prop:=∀c,c∈l↔∃j,i<=j/\j<n/\c=f j
def uX(f:Nat->Cell)(n:Nat):Prop:=∀i j,i<n->j<n->(f i).key=(f j).key->i=j
theorem og.fill{f:Nat->Cell}{n:Nat}(h:uX f n):og f 0 n (iV f n):=fun c=>by
 constructor
 . intro hc;obtain⟨j,h1,h2⟩:=uV hc;exact⟨j,by omega,h1,h2⟩
 . rintro⟨j,_,h1,rfl⟩
   exact uW h1 fun k h2 h3 e=>by have:=h k j h3 h1 e;omega
theorem og.has{f:Nat->Cell}{i n:Nat}{l:List Cell}(h:og f i n l)(hi:i<n):(cz l (f i).key).isSome=true:=
 qg.2 ⟨f i,(h _).2 ⟨i,Nat.le_refl _,hi,rfl⟩,rfl⟩
theorem og.cut{f:Nat->Cell}{i n:Nat}{l:List Cell}(h:og f i n l)(hk:uX f n)(hi:i<n):og f (i+1) n (iq l (f i).key):=fun c=>by
 rw[fq l (f i).key c,h c]
 constructor
 . rintro⟨⟨j,h1,h2,rfl⟩,h3⟩
   exact⟨j,by have:j≠i:=fun e=>h3 (by rw[e]);omega,h2,rfl⟩
 . rintro⟨j,h1,h2,rfl⟩
   exact⟨⟨j,by omega,h2,rfl⟩,fun e=>by have:=hk j i h2 hi e;omega⟩
theorem og.none{f:Nat->Cell}{n:Nat}{l:List Cell}(h:og f n n l):l=[]:=by
 refine List.eq_nil_iff_forall_not_mem.2 fun c hc=> ?_
 obtain⟨j,h1,h2,_⟩:=(h c).1 hc
 omega
end Go.Pl
end
section
namespace Go.Sx
open Go
section
variable[au]{α:Type}{enc:α->List Value}{sz:Nat}{hs:List Chunk}{T:aE}{t:Nat}
end
end Go.Sx
namespace Go.Pl
open Go Go.Sx
theorem Ge{l:List Cell}(h:rising (keysOf l)){i:Nat}{c x:Cell}(hi:l[i]? =some c)(hk:x.key=c.key):b5 l x=l.set i x:=by
 have hks:keysOf (l.set i x)=keysOf l:=by
  unfold keysOf
  rw[List.map_set,hk]
  obtain⟨hlt,rfl⟩:=List.getElem?_eq_some_iff.1 hi
  apply List.ext_getElem?
  intro j
  rw[List.getElem?_set]
  by_cases e:i=j
  . subst e;rw[if_pos rfl,if_pos (by simpa using hlt),List.getElem?_map,List.getElem?_eq_getElem hlt];rfl
  . rw[if_neg e]
 refine(vQ h (by rw[hks];exact h) fun z=> ?_).symm
 obtain⟨hlt,hc⟩:=List.getElem?_eq_some_iff.1 hi
 constructor
 . intro hz
   obtain⟨j,hj⟩:=List.getElem?_of_mem hz
   rw[List.getElem?_set]at hj
   by_cases e:i=j
   . rw[if_pos e,if_pos hlt]at hj;injection hj with hj;exact .inl hj.symm
   . rw[if_neg e]at hj
     refine .inr ⟨List.mem_of_getElem? hj,fun ek=> ?_⟩
     rw[hk]at ek
     rcases Nat.lt_or_gt_of_ne e with h1|h1
     . have:=eX h h1 (bG hi) (bG hj);rw[ek,aF]at this;cases this
     . have:=eX h h1 (bG hj) (bG hi);rw[ek,aF]at this;cases this
 . rintro(rfl|⟨hz,hne⟩)
   . exact List.mem_of_getElem? (i:=i) (by rw[List.getElem?_set,if_pos rfl,if_pos hlt])
   . obtain⟨j,hj⟩:=List.getElem?_of_mem hz
     have e:i≠j:=fun e=>by subst e;rw[hi]at hj;injection hj with hj;exact hne (by rw[<-hj,hk])
     exact List.mem_of_getElem? (i:=j) (by rw[List.getElem?_set_ne e];exact hj)
def Bp(l v:Nat)(L:List Cell):Prop:=∀c∈L,∃j,j<l/\c=xE j v
theorem Bp.put{l v:Nat}{L:List Cell}(h:Bp l v L)(hr:rising (keysOf L)):Bp (l+1) v (b5 L (xE l v)):=fun c hc=>by
 rcases(fe hr).1 hc with rfl|⟨hc,_⟩
 . exact⟨l,by omega,rfl⟩
 . obtain⟨j,hj,e⟩:=h c hc;exact⟨j,by omega,e⟩
def oB(n s v i:Nat)(L:List Cell):Prop:=∀(q:Nat) (c:Cell),L[q]? =some c->∃j,j<n/\c=xE j (if q<i then s else v)
theorem oB.zero{n s v:Nat}{L:List Cell}(h:Bp n v L):oB n s v 0 L:=fun q c hc=>by
 obtain⟨j,hj,e⟩:=h c (List.mem_of_getElem? hc)
 exact⟨j,hj,by rw[if_neg (by omega)];exact e⟩
theorem oB.step{n s v i k:Nat}{L:List Cell}(h:oB n s v i L)(hi:L[i]? =some (xE k v))(hk:k<n):oB n s v (i+1) (L.set i (xE k s)):=fun q c hc=>by
 rw[List.getElem?_set]at hc
 by_cases e:i=q
 . subst e
   rw[if_pos rfl,if_pos (List.getElem?_eq_some_iff.1 hi).1]at hc
   injection hc with hc
   exact⟨k,hk,by rw[if_pos (by omega)];exact hc.symm⟩
 . rw[if_neg e]at hc
   obtain⟨j,hj,e2⟩:=h q c hc
   refine⟨j,hj,e2.trans ?_⟩
   congr 1
   by_cases h1:q<i
   . rw[if_pos h1,if_pos (by omega)]
   . rw[if_neg h1,if_neg (by omega)]
def GW(L:List Cell):Prop:=∀x∈L,x.val.f<2^64/\x.new.f<2^64
theorem GW.put{L:List Cell}(h:GW L)(hr:rising (keysOf L)){x:Cell}(hx:x.val.f<2^64/\x.new.f<2^64):GW (b5 L x):=fun c hc=>by
 rcases(fe hr).1 hc with rfl|⟨hc,_⟩
 . exact hx
 . exact h c hc
theorem GW.cut{L:List Cell}(h:GW L)(k:ByteArray):GW (iq L k):=fun c hc=>h c ((fq L k c).1 hc).1
def nw(L:List Cell)(i:Nat)(l:List Cell):Prop:=∀c,c∈l↔∃q,L[q]? =some c/\¬∃k,k<i/\(k*7+3)%L.length=q
theorem Fi{L:List Cell}(h:rising (keysOf L)){p q:Nat}{a b:Cell}(ha:L[p]? =some a)(hb:L[q]? =some b)(hk:a.key=b.key):p=q:=by
 rcases Nat.lt_trichotomy p q with h1|h1|h1
 . have:=eX h h1 (bG ha) (bG hb);rw[hk,aF]at this;cases this
 . exact h1
 . have:=eX h h1 (bG hb) (bG ha);rw[hk,aF]at this;cases this
theorem nw.has{L l:List Cell}{i:Nat}(hs:nw L i l)(h:rising (keysOf L)){c:Cell}(hc:L[(i*7+3)%L.length]? =some c):(cz l c.key).isSome= !Ju i L.length:=by
 rw[Bool.eq_iff_iff,qg,Bool.not_eq_true',Ju,decide_eq_false_iff_not]
 constructor
 . rintro⟨z,hz,hk⟩
   obtain⟨q,hq,hn⟩:=(hs z).1 hz
   have:=Fi h hq hc hk
   subst this;exact hn
 . intro hn;exact⟨c,(hs c).2 ⟨_,hc,hn⟩,rfl⟩
theorem nw.cut{L l:List Cell}{i:Nat}(hs:nw L i l)(h:rising (keysOf L)){c:Cell}(hc:L[(i*7+3)%L.length]? =some c):nw L (i+1) (iq l c.key):=fun z=>by
 rw[fq l c.key z,hs z]
 constructor
 . rintro⟨⟨q,hq,hn⟩,hk⟩
   refine⟨q,hq,?_⟩
   rintro⟨k,h1,h2⟩
   by_cases e:k=i
   . subst e
     subst h2;rw[hc]at hq;injection hq with hq;exact hk (by rw[hq])
   . exact hn ⟨k,by omega,h2⟩
 . rintro⟨q,hq,hn⟩
   refine⟨⟨q,hq,fun⟨k,h1,h2⟩=>hn ⟨k,by omega,h2⟩⟩,fun hk=> ?_⟩
   exact hn ⟨i,by omega,(Fi h hc hq hk.symm)⟩
def pS(L:List Cell)(i:Nat)(l:List Cell):Prop:=∀c∈l,∃q,i<=q/\L[q]? =some c
theorem nw.from{L l:List Cell}{i:Nat}(hs:nw L i l):pS L 0 l:=fun c hc=>by
 obtain⟨q,hq,_⟩:=(hs c).1 hc;exact⟨q,Nat.zero_le _,hq⟩
theorem pS.cut{L l:List Cell}{i:Nat}(h:pS L i l){c:Cell}(hc:L[i]? =some c):pS L (i+1) (iq l c.key):=fun z hz=>by
 obtain⟨h1,h2⟩:=(fq l c.key z).1 hz
 obtain⟨q,hq,MS⟩:=h z h1
 refine⟨q,?_,MS⟩
 rcases Nat.eq_or_lt_of_le hq with e|e
 . subst e;rw[hc]at MS;injection MS with MS;exact absurd (by rw[MS]) h2
 . exact e
theorem pS.none{L l:List Cell}(h:pS L L.length l):l=[]:=by
 refine List.eq_nil_iff_forall_not_mem.2 fun c hc=> ?_
 obtain⟨q,hq,Vy⟩:=h c hc
 have:=(List.getElem?_eq_some_iff.1 Vy).1
 omega
end Go.Pl
end
section
namespace Go.Pl
open Go Go.Sx
structure XL where
 kind:Int
 c:Cell
 key:ByteArray
 to:ByteArray
theorem DF{l:List Cell}{p:Cell->Bool}{j:Nat}{y:Cell}(h:l[j]? =some y)(hp:p y=true):(l.filter p)[((l.take j).filter p).length]? =some y/\((l.take (j+1)).filter p).length=((l.take j).filter p).length+1:=by
 obtain⟨hlt,rfl⟩:=List.getElem?_eq_some_iff.1 h
 constructor
 . conv=>lhs;arg 1;rw[<-List.take_append_drop j l,List.filter_append,List.drop_eq_getElem_cons hlt,List.filter_cons,if_pos hp]
   rw[List.getElem?_append_right (Nat.le_refl _),Nat.sub_self];rfl
 . rw[List.take_add_one,h,Option.toList_some,List.filter_append,List.length_append,List.filter_cons,if_pos hp];rfl
theorem uY{l:List Cell}{p:Cell->Bool}{j:Nat}{y:Cell}(h:l[j]? =some y)(hp:p y=false):((l.take (j+1)).filter p).length=((l.take j).filter p).length:=by
 rw[List.take_add_one,h,Option.toList_some,List.filter_append,List.length_append,List.filter_cons,if_neg (by rw[hp];simp)];rfl
theorem AV(l:List Cell)(p:Cell->Bool)(j:Nat):((l.take j).filter p).length<=l.length:=Nat.le_trans (List.length_filter_le _ _) (by rw[List.length_take];omega)
theorem Ip{l:List Cell}(h:GW l)(k:ByteArray):((cz l k).getD noCell).val.f<2^64/\((cz l k).getD noCell).new.f<2^64:=by
 cases hg:cz l k with
 |none=>constructor<;>(show(0:Nat)<2^64;decide)
 |some c=>exact h c (List.mem_of_find?_eq_some (show l.find? (fun c=>decide (c.key=k))=some c from hg))
end Go.Pl
end
section
namespace Go.Pl
open Go Go.Sx
abbrev dA:=ByteArray×Vl
def qD(c:Cell)(t:Int):Vl:=if 0<t/\c.cg=t then c.new else c.val
def tv(l:List Cell)(t:Int)(k:ByteArray):Vl:=match cz l k with|some c=>qD c t|none=>bq
def ny(t:Int)(c:Cell):Option dA:=if(qD c t).kind=0 then none else some (c.key,qD c t)
def z8(l:List Cell)(t:Int)(a b:ByteArray):List dA:=(l.filter fun c=>bW c.key a b).filterMap (ny t)
def gT(c:Cell):Cell×Bool:=if c.val.kind=0 then(noCell,false)else({c with cg:=0,new:=bq},true)
def dH(c:Cell):Cell×Bool:=gT (if 0<c.cg then{c with val:=c.new}else c)
def kW(p:Int->Bool)(how:Cell->Cell×Bool)(c:Cell):Option Cell:=if c.cg≠0/\p c.cg=true then(if(how c).2=true then some (how c).1 else none)else some c
def Ez(l:List Cell)(p:Int->Bool)(how:Cell->Cell×Bool):List Cell:=l.filterMap (kW p how)
def wZ(l:List Cell)(p:Int->Bool):Nat:=(l.filter fun c=>decide (c.cg≠0/\p c.cg=true)).length
def Bq(how:Cell->Cell×Bool):Prop:=∀c,aC c=true->c.cg≠0->(c.val.f<2^64/\c.new.f<2^64)->(how c).2=true->
 (how c).1.key=c.key/\aC (how c).1=true/\((how c).1.val.f<2^64/\(how c).1.new.f<2^64)/\(ax (how c).1).length<=(ax c).length
theorem mK{c:Cell}(h:aC c=true):bP c.key=true/\bT c.val=true/\bT c.new=true/\0<=c.cg/\c.cg<=1099511627776/\(0<c.cg\/(c.new.kind=0/\c.val.kind≠0)):=by
 unfold aC at h
 simp only[Bool.and_eq_true,Bool.or_eq_true,decide_eq_true_eq,Bool.not_eq_true',decide_eq_false_iff_not]at h
 obtain⟨⟨⟨⟨⟨h1,h2⟩,h3⟩,h4⟩,h5⟩,h6⟩:=h
 exact⟨h1,h2,h3,h4,h5,h6⟩
theorem sx{c:Cell}(h1:bP c.key=true)(h2:bT c.val=true)(h3:bT c.new=true)(h4:0<=c.cg)(h5:c.cg<=1099511627776)(h6:0<c.cg\/(c.new.kind=0/\c.val.kind≠0)):aC c=true:=by
 unfold aC
 rw[h1,h2,h3,decide_eq_true h4,decide_eq_true h5]
 rcases h6 with h|⟨ha,hb⟩
 . rw[decide_eq_true h];rfl
 . rw[decide_eq_true ha,decide_eq_false hb];simp
theorem sy:bT bq=true:=by decide
theorem yx:(put 0).length=1:=dI (by omega) (by omega)
theorem Iq:Bq gT:=fun c hm ht hf h=>by
 obtain⟨h1,h2,h3,h4,h5,h6⟩:=mK hm
 unfold gT at h⊢
 by_cases hk:c.val.kind=0
 . rw[if_pos hk]at h;cases h
 . rw[if_neg hk]
   refine⟨rfl,sx h1 h2 sy (Int.le_refl 0) (show(0:Int)<=1099511627776 by decide) (.inr ⟨rfl,hk⟩),⟨hf.1,by show 0<2^64;decide⟩,?_⟩
   unfold ax
   dsimp only
   have:=eC c.cg
   simp only[List.length_append,yx,if_neg (show¬(0:Int)<0 by omega),List.length_nil]
   omega
theorem uZ:Bq dH:=fun c hm ht hf h=>by
 obtain⟨h1,h2,h3,h4,h5,h6⟩:=mK hm
 have ht':0<c.cg:=by omega
 unfold dH at h⊢
 rw[if_pos ht']at h⊢
 unfold gT at h⊢
 dsimp only at h⊢
 by_cases hk:c.new.kind=0
 . rw[if_pos hk]at h;cases h
 . rw[if_neg hk]
   refine⟨rfl,sx h1 h3 sy (Int.le_refl 0) (show(0:Int)<=1099511627776 by decide) (.inr ⟨rfl,hk⟩),⟨hf.2,by show 0<2^64;decide⟩,?_⟩
   unfold ax
   dsimp only
   have:=eC c.cg
   simp only[List.length_append,yx,if_neg (show¬(0:Int)<0 by omega),if_pos ht',List.length_nil]
   omega
def mY(l:List Cell)(F:Cell->Option Cell)(i:Nat):List Cell:=(l.take i).filterMap F++l.drop i
def iO(l:List Cell)(F:Cell->Option Cell):Prop:=∀c∈l,∀x,F c=some x->x.key=c.key
theorem oQ{F:Cell->Option Cell}:∀{l:List Cell},iO l F->(keysOf (l.filterMap F)).Sublist (keysOf l)
 |[],_=>List.Sublist.refl _
 |c::l,h=>by
  have ih:=oQ (F:=F) (l:=l) fun d hd=>h d (by simp[hd])
  rw[List.filterMap_cons]
  cases hF:F c with
  |none=>exact List.Sublist.cons _ ih
  |some x=>
   have:=h c (by simp) x hF
   show(x.key::keysOf (l.filterMap F)).Sublist (c.key::keysOf l)
   rw[this];exact List.Sublist.cons_cons _ ih
theorem s4{l:List Cell}{F:Cell->Option Cell}(hr:rising (keysOf l))(hk:iO l F)(i:Nat):rising (keysOf (mY l F i)):=by
 refine hr.sublist ?_
 have e:keysOf l=keysOf (l.take i)++keysOf (l.drop i):=by unfold keysOf;rw[<-List.map_append,List.take_append_drop]
 rw[e]
 show(List.map Cell.key ((l.take i).filterMap F++l.drop i)).Sublist _
 rw[List.map_append]
 exact List.Sublist.append (oQ fun c hc=>hk c (List.mem_of_mem_take hc)) (List.Sublist.refl _)
theorem oR{l:List Cell}{F:Cell->Option Cell}{i:Nat}{c:Cell}(hc:l[i]? =some c):mY l F i=(l.take i).filterMap F++c::l.drop (i+1):=by
 obtain⟨hlt,rfl⟩:=List.getElem?_eq_some_iff.1 hc
 unfold mY;rw[List.drop_eq_getElem_cons hlt]
theorem sA{l:List Cell}{F:Cell->Option Cell}{i:Nat}{c:Cell}(hc:l[i]? =some c):mY l F (i+1)=((l.take i).filterMap F++(F c).toList)++l.drop (i+1):=by
 unfold mY
 rw[List.take_add_one,hc,Option.toList_some,List.filterMap_append]
 rw[show List.filterMap F [c]=(F c).toList by rw[List.filterMap_cons];cases F c<;>rfl]
theorem Cl{l:List Cell}{F:Cell->Option Cell}{i:Nat}{c:Cell}(hc:l[i]? =some c):(mY l F i)[((l.take i).filterMap F).length]? =some c:=by
 rw[oR hc,List.getElem?_append_right (Nat.le_refl _),Nat.sub_self];rfl
theorem Ir{l:List Cell}{F:Cell->Option Cell}{i:Nat}{c x:Cell}(hr:rising (keysOf l))(hk:iO l F)(hc:l[i]? =some c)(hx:F c=some x):b5 (mY l F i) x=mY l F (i+1):=by
 rw[Ge (s4 hr hk i) (Cl hc) (hk c (List.mem_of_getElem? hc) x hx),sA hc,oR hc,hx,List.set_append_right _ _ (Nat.le_refl _),Nat.sub_self]
 simp
theorem Is{l:List Cell}{F:Cell->Option Cell}{i:Nat}{c:Cell}(hr:rising (keysOf l))(hk:iO l F)(hc:l[i]? =some c)(hx:F c=none):iq (mY l F i) c.key=mY l F (i+1):=by
 have h:=s4 hr hk i
 rw[sA hc,hx,Option.toList_none,List.append_nil]
 rw[oR hc]at h⊢
 have h':rising (keysOf ((l.take i).filterMap F)++c.key::keysOf (l.drop (i+1))):=by
  have:keysOf ((l.take i).filterMap F++c::l.drop (i+1))=keysOf ((l.take i).filterMap F)++c.key::keysOf (l.drop (i+1)):=by unfold keysOf;rw[List.map_append];rfl
  rw[<-this];exact h
 obtain⟨_,h2,h3⟩:=List.pairwise_append.1 h'
 have h4:=(List.pairwise_cons.1 h2).1
 unfold iq
 rw[List.filter_append,List.filter_cons,if_neg (by simp)]
 rw[List.filter_eq_self.2 fun y hy=> ?_,List.filter_eq_self.2 fun y hy=> ?_]
 . exact decide_eq_true fun e=>by have:=h4 y.key (List.mem_map.2 ⟨y,hy,rfl⟩);rw[e,aF]at this;cases this
 . exact decide_eq_true fun e=>by have:=h3 y.key (List.mem_map.2 ⟨y,hy,rfl⟩) c.key (by simp);rw[e,aF]at this;cases this
theorem yy{l:List Cell}{F:Cell->Option Cell}{i:Nat}{c:Cell}(hc:l[i]? =some c)(hx:F c=some c):mY l F (i+1)=mY l F i:=by
 rw[sA hc,oR hc,hx];simp
theorem Iu(l:List Cell)(F:Cell->Option Cell):mY l F l.length=l.filterMap F:=by unfold mY;rw[List.take_length,List.drop_length,List.append_nil]
end Go.Pl
end
section
namespace Go.Pl
open Go Go.Sx
def dM(d:List dA):List ByteArray:=d.map Prod.fst
def cV(d:List dA)(k:ByteArray):Option Vl:=(d.find? fun p=>decide (p.1=k)).map Prod.snd
def w6(k:ByteArray)(v:Vl)(st:List dA×Bool)(x:dA):List dA×Bool:=if st.2=false/\cC x.1 k=false then(st.1++[(k,v)],true)else st
def iC(k:ByteArray)(v:Vl)(st:List dA×Bool)(x:dA):List dA×Bool:=if x.1≠k then((w6 k v st x).1++[x],(w6 k v st x).2)else w6 k v st x
def xF(d:List dA)(k:ByteArray)(v:Vl)(i:Nat):List dA×Bool:=(d.take i).foldl (iC k v) ([],decide (v.kind=0))
def pM(d:List dA)(k:ByteArray)(v:Vl):List dA:=if(xF d k v d.length).2=false then(xF d k v d.length).1++[(k,v)]else(xF d k v d.length).1
theorem iS{k:ByteArray}{v:Vl}:∀{d:List dA} {out:List dA},d.foldl (iC k v) (out,true)=(out++d.filter (fun x=>decide (x.1≠k)),true)
 |[],out=>by simp
 |x::d,out=>by
  rw[List.foldl_cons]
  by_cases h:x.1=k
  . have e:iC k v (out,true) x=(out,true):=by simp[iC,w6,h]
    rw[e,iS,List.filter_cons,if_neg (by simp[h])]
  . have e:iC k v (out,true) x=(out++[x],true):=by simp[iC,w6,h]
    rw[e,iS,List.filter_cons,if_pos (decide_eq_true h)];simp
theorem yz{k:ByteArray}{v:Vl}:∀{d:List dA} {out:List dA},rising (dM d)->
 (if(d.foldl (iC k v) (out,false)).2=false then(d.foldl (iC k v) (out,false)).1++[(k,v)]else(d.foldl (iC k v) (out,false)).1)=out++(d.filter (fun x=>cC x.1 k)++(k,v)::d.filter (fun x=>cC k x.1))
 |[],out,_=>by simp
 |x::d,out,h=>by
  have h':=List.pairwise_cons.1 h
  have hgt:∀y∈d,cC x.1 y.1=true:=fun y hy=>h'.1 _ (List.mem_map.2 ⟨y,hy,rfl⟩)
  rw[List.foldl_cons,List.filter_cons,List.filter_cons]
  rcases eO x.1 k with h1|h1|h1
  . have h2:x.1≠k:=fun e=>by rw[e,aF]at h1;cases h1
    have e:iC k v (out,false) x=(out++[x],false):=by simp[iC,w6,h1,h2]
    rw[e,yz h'.2,if_pos h1,if_neg (by rw[cY h1];simp)]
    simp
  . have e:iC k v (out,false) x=(out++[(k,v)],true):=by simp[iC,w6,h1,aF]
    have hl:∀y∈d,cC k y.1=true:=fun y hy=>by rw[<-h1];exact hgt y hy
    have hne:∀y∈d,y.1≠k:=fun y hy e=>by have:=hl y hy;rw[e,aF]at this;cases this
    have f1:d.filter (fun x=>cC x.1 k)=[]:=List.filter_eq_nil_iff.2 fun y hy=>by rw[cY (hl y hy)];simp
    have f2:d.filter (fun x=>cC k x.1)=d:=List.filter_eq_self.2 hl
    have f3:d.filter (fun x=>decide (x.1≠k))=d:=List.filter_eq_self.2 fun y hy=>decide_eq_true (hne y hy)
    rw[e,iS,if_neg (by simp),if_neg (by rw[h1,aF];simp),if_neg (by rw[h1,aF];simp),f1,f2,f3]
    simp
  . have h2:x.1≠k:=fun e=>by rw[e,aF]at h1;cases h1
    have e:iC k v (out,false) x=(out++[(k,v),x],true):=by simp[iC,w6,cY h1,h2]
    have hl:∀y∈d,cC k y.1=true:=fun y hy=>bD h1 (hgt y hy)
    have hne:∀y∈d,y.1≠k:=fun y hy e=>by have:=hl y hy;rw[e,aF]at this;cases this
    have f1:d.filter (fun x=>cC x.1 k)=[]:=List.filter_eq_nil_iff.2 fun y hy=>by rw[cY (hl y hy)];simp
    have f2:d.filter (fun x=>cC k x.1)=d:=List.filter_eq_self.2 hl
    have f3:d.filter (fun x=>decide (x.1≠k))=d:=List.filter_eq_self.2 fun y hy=>decide_eq_true (hne y hy)
    rw[e,iS,if_neg (by simp),if_neg (by rw[cY h1];simp),if_pos h1,f1,f2,f3]
    simp
theorem u0{d:List dA}{k:ByteArray}{v:Vl}(h:v.kind=0):pM d k v=d.filter (fun x=>decide (x.1≠k)):=by
 unfold pM xF
 rw[List.take_length,decide_eq_true h,iS,if_neg (by simp)];simp
theorem u5{d:List dA}{k:ByteArray}{v:Vl}(hr:rising (dM d))(h:v.kind≠0):pM d k v=d.filter (fun x=>cC x.1 k)++(k,v)::d.filter (fun x=>cC k x.1):=by
 have:=yz (k:=k) (v:=v) (out:=[]) hr
 unfold pM xF
 rw[List.take_length,decide_eq_false h,this];simp
theorem oS{d:List dA}{k:ByteArray}{v:Vl}(hr:rising (dM d))(z:dA):z∈pM d k v↔(z=(k,v)/\v.kind≠0)\/(z∈d/\z.1≠k):=by
 by_cases h:v.kind=0
 . rw[u0 h,List.mem_filter];simp[h]
 . rw[u5 hr h,List.mem_append,List.mem_cons,List.mem_filter,List.mem_filter]
   constructor
   . rintro(⟨h1,h2⟩|h1|⟨h1,h2⟩)
     . exact .inr ⟨h1,vM h2⟩
     . exact .inl ⟨h1,h⟩
     . exact .inr ⟨h1,fun e=>by rw[e,aF]at h2;cases h2⟩
   . rintro(⟨h1,_⟩|⟨h1,h2⟩)
     . exact .inr (.inl h1)
     . rcases eO z.1 k with h3|h3|h3
       . exact .inl ⟨h1,h3⟩
       . exact absurd h3 h2
       . exact .inr (.inr ⟨h1,h3⟩)
theorem gJ{d:List dA}{k:ByteArray}{v:Vl}(hr:rising (dM d)):rising (dM (pM d k v)):=by
 by_cases h:v.kind=0
 . rw[u0 h];exact hr.sublist (List.filter_sublist.map _)
 . rw[u5 hr h]
   unfold dM rising
   rw[List.map_append,List.pairwise_append,List.map_cons,List.pairwise_cons]
   refine⟨hr.sublist (List.filter_sublist.map _),⟨fun q hq=> ?_,hr.sublist (List.filter_sublist.map _)⟩,fun a ha b hb=> ?_⟩
   . obtain⟨y,hy,rfl⟩:=List.mem_map.1 hq
     exact(List.mem_filter.1 hy).2
   . obtain⟨x,hx,rfl⟩:=List.mem_map.1 ha
     have hx:=(List.mem_filter.1 hx).2
     rcases List.mem_cons.1 hb with rfl|hb
     . exact hx
     . obtain⟨y,hy,rfl⟩:=List.mem_map.1 hb
       exact bD hx (List.mem_filter.1 hy).2
theorem u6:∀{a b:List dA},rising (dM a)->rising (dM b)->(∀c,c∈a↔c∈b)->a=b
 |[],[],_,_,_=>rfl
 |[],y::b,_,_,h=>by have:=(h y).2 (by simp);cases this
 |x::a,[],_,_,h=>by have:=(h x).1 (by simp);cases this
 |x::a,y::b,ha,hb,h=>by
  have GX:=List.pairwise_cons.1 ha
  have hb':=List.pairwise_cons.1 hb
  have Tm:∀z∈a,cC x.1 z.1=true:=fun z hz=>GX.1 _ (List.mem_map.2 ⟨z,hz,rfl⟩)
  have Tn:∀z∈b,cC y.1 z.1=true:=fun z hz=>hb'.1 _ (List.mem_map.2 ⟨z,hz,rfl⟩)
  have e:x=y:=by
   rcases List.mem_cons.1 ((h x).1 (by simp))with h1|h1
   . exact h1
   . rcases List.mem_cons.1 ((h y).2 (by simp))with h2|h2
     . exact h2.symm
     . have:=bD (Tn x h1) (Tm y h2);rw[aF]at this;cases this
  subst e
  congr 1
  refine u6 GX.2 hb'.2 fun c=>⟨fun hc=> ?_,fun hc=> ?_⟩
  . rcases List.mem_cons.1 ((h c).1 (by simp[hc]))with h1|h1
    . have:=Tm c hc;rw[h1,aF]at this;cases this
    . exact h1
  . rcases List.mem_cons.1 ((h c).2 (by simp[hc]))with h1|h1
    . have:=Tn c hc;rw[h1,aF]at this;cases this
    . exact h1
theorem fW{d:List dA}(hr:rising (dM d)){k:ByteArray}{v:Vl}:cV d k=some v↔(k,v)∈d:=by
 unfold cV
 rw[Option.map_eq_some_iff]
 constructor
 . rintro⟨p,h1,rfl⟩
   have hm:=List.mem_of_find?_eq_some h1
   have hk:p.1=k:=by simpa using List.find?_some h1
   subst hk;exact hm
 . intro h
   cases hf:d.find? fun p=>decide (p.1=k)with
   |none=>have:=List.find?_eq_none.1 hf _ h;simp at this
   |some p=>
    have hm:=List.mem_of_find?_eq_some hf
    have hk:p.1=k:=by simpa using List.find?_some hf
    have hn:=o7 hr
    refine⟨p,rfl,?_⟩
    have:p=(k,v):=by
     obtain⟨i,hi⟩:=List.getElem?_of_mem hm
     obtain⟨j,hj⟩:=List.getElem?_of_mem h
     have e:i=j:=by
      rcases Nat.lt_trichotomy i j with h1|h1|h1
      . have:=eX hr h1 (by unfold dM;rw[List.getElem?_map,hi];rfl) (by unfold dM;rw[List.getElem?_map,hj];rfl)
        rw[hk,aF]at this;cases this
      . exact h1
      . have:=eX hr h1 (by unfold dM;rw[List.getElem?_map,hj];rfl) (by unfold dM;rw[List.getElem?_map,hi];rfl)
        rw[hk,aF]at this;cases this
     subst e;rw[hi]at hj;injection hj
    rw[this]
theorem u7{d:List dA}{k:ByteArray}:cV d k=none↔∀p∈d,p.1≠k:=by
 unfold cV
 rw[Option.map_eq_none_iff,List.find?_eq_none]
 simp
theorem oT{d:List dA}(hr:rising (dM d)){k q:ByteArray}{v:Vl}:cV (pM d k v) q=if q=k then(if v.kind=0 then none else some v)else cV d q:=by
 by_cases hq:q=k
 . subst hq
   rw[if_pos rfl]
   by_cases hv:v.kind=0
   . rw[if_pos hv,u7]
     intro p hp
     rcases(oS hr p).1 hp with⟨_,h⟩|⟨_,h⟩
     . exact absurd hv h
     . exact h
   . rw[if_neg hv,fW (gJ hr)]
     exact(oS hr _).2 (.inl ⟨rfl,hv⟩)
 . rw[if_neg hq]
   cases hd:cV d q with
   |none=>
    rw[u7]at hd⊢
    intro p hp
    rcases(oS hr p).1 hp with⟨h,_⟩|⟨h,_⟩
    . rw[h];exact fun e=>hq e.symm
    . exact hd p h
   |some w=>
    rw[fW hr]at hd
    rw[fW (gJ hr)]
    exact(oS hr _).2 (.inr ⟨hd,hq⟩)
end Go.Pl
end
section
namespace Go.Pl
open Go Go.Sx
structure cX where
 cg:Int
 key:ByteArray
 val:Vl
def bQ(ow:List cX)(k:ByteArray):Option cX:=ow.find? fun o=>decide (o.key=k)
def h_(t:Int)(d:List dA)(o:cX):List dA:=if 0<t/\o.cg=t then pM d o.key o.val else d
def CH(d:List dA)(ow:List cX)(t:Int):List dA:=ow.foldl (h_ t) d
theorem l5{t:Int}{d:List dA}{o:cX}(h:rising (dM d)):rising (dM (h_ t d o)):=by
 unfold h_;split
 . exact gJ h
 . exact h
theorem qT{t:Int}:∀{ow:List cX} {d:List dA},rising (dM d)->rising (dM (CH d ow t))
 |[],_,h=>h
 |o::ow,d,h=>qT (ow:=ow) (d:=h_ t d o) (l5 h)
theorem gm{ow:List cX}{k:ByteArray}{o:cX}(h:bQ ow k=some o):o∈ow/\o.key=k:=
 ⟨List.mem_of_find?_eq_some h,by have:=List.find?_some (p:=fun o:cX=>decide (o.key=k)) h;simpa using this⟩
theorem fF{ow:List cX}{k:ByteArray}:bQ ow k=none↔∀o∈ow,o.key≠k:=by
 unfold bQ;rw[List.find?_eq_none];simp
theorem qh{ow:List cX}(hn:(ow.map cX.key).Nodup){o:cX}(h:o∈ow):bQ ow o.key=some o:=by
 induction ow with
 |nil=>cases h
 |cons x ow ih=>
  have hn':=List.nodup_cons.1 (by simpa using hn:(x.key::ow.map cX.key).Nodup)
  unfold bQ
  rw[List.find?_cons]
  rcases List.mem_cons.1 h with rfl|h
  . simp
  . have hne:x.key≠o.key:=fun e=>hn'.1 (by rw[e];exact List.mem_map.2 ⟨o,h,rfl⟩)
    simp only[decide_eq_false hne]
    exact ih hn'.2 h
theorem sB{t:Int}{k:ByteArray}:∀{ow:List cX} {d:List dA},rising (dM d)->(ow.map cX.key).Nodup->
 cV (CH d ow t) k=match bQ ow k with|some o=>if 0<t/\o.cg=t then(if o.val.kind=0 then none else some o.val)else cV d k|none=>cV d k
 |[],d,_,_=>rfl
 |o::ow,d,h,hn=>by
  have hn':=List.nodup_cons.1 (by simpa using hn:(o.key::ow.map cX.key).Nodup)
  have ih:=sB (t:=t) (k:=k) (ow:=ow) (d:=h_ t d o) (l5 h) hn'.2
  show cV (CH (h_ t d o) ow t) k=_
  rw[ih]
  by_cases hk:o.key=k
  . have h1:bQ ow k=none:=fF.2 fun x hx e=>hn'.1 (by rw[hk,<-e];exact List.mem_map.2 ⟨x,hx,rfl⟩)
    have h2:bQ (o::ow) k=some o:=by unfold bQ;rw[List.find?_cons];simp[hk]
    rw[h1,h2]
    dsimp only
    unfold h_
    by_cases hc:0<t/\o.cg=t
    . rw[if_pos hc,if_pos hc,oT h,if_pos hk.symm]
    . rw[if_neg hc,if_neg hc]
  . have h2:bQ (o::ow) k=bQ ow k:=by unfold bQ;rw[List.find?_cons];simp[hk]
    have h3:cV (h_ t d o) k=cV d k:=by
     unfold h_;split
     . rw[oT h,if_neg fun e=>hk e.symm]
     . rfl
    rw[h2,h3]
def gv(d:List dA)(ow:List cX)(k:ByteArray):Option Cell:=match bQ ow k with
 |some o=>some ⟨k,(cV d k).getD bq,o.cg,o.val⟩
 |none=>(cV d k).map fun v=>⟨k,v,0,bq⟩
structure GH(d:List dA)(ow:List cX)(l:List Cell):Prop where
 kV:rising (dM d)
 once:(ow.map cX.key).Nodup
 dk:∀p∈d,p.2.kind≠0
 own:∀o∈ow,0<o.cg
 lr:rising (keysOf l)
 good:∀c∈l,aC c=true
 cell:∀k,cz l k=gv d ow k
theorem Iv{v:Vl}(h:bT v=true)(hk:v.kind=0):v=bq:=by
 unfold bT at h
 rw[if_pos hk]at h
 simp only[Bool.and_eq_true,decide_eq_true_eq]at h
 obtain⟨a,b,c⟩:=v
 dsimp only at hk h
 rw[hk,h.1,h.2];rfl
theorem ff{l:List Cell}(hr:rising (keysOf l)){c:Cell}:c∈l↔cz l c.key=some c:=by
 constructor
 . intro h;exact(Ck hr (o:=some c) ⟨h,rfl⟩).symm
 . intro h;exact List.mem_of_find?_eq_some (show l.find? (fun x=>decide (x.key=c.key))=some c from h)
theorem fj{l:List Cell}{k:ByteArray}{c:Cell}(h:cz l k=some c):c∈l/\c.key=k:=
 ⟨List.mem_of_find?_eq_some (show l.find? (fun x=>decide (x.key=k))=some c from h),by have:=List.find?_some (p:=fun x:Cell=>decide (x.key=k)) h;simpa using this⟩
theorem GH.Vz{d:List dA}{ow:List cX}{l:List Cell}(h:GH d ow l)(t:Int)(k:ByteArray):tv l t k=(cV (CH d ow t) k).getD bq:=by
 have hc:=h.cell k
 rw[sB h.kV h.once]
 unfold tv
 unfold gv at hc
 cases ho:bQ ow k with
 |none=>
  rw[ho]at hc
  dsimp only at hc⊢
  cases hv:cV d k with
  |none=>rw[hv]at hc;rw[hc];rfl
  |some v=>
   rw[hv]at hc
   rw[show cz l k=some ⟨k,v,0,bq⟩from hc]
   show qD _ t=v
   unfold qD
   rw[if_neg (by dsimp only;omega)]
 |some o=>
  rw[ho]at hc
  dsimp only at hc⊢
  rw[hc]
  show qD _ t=_
  unfold qD
  dsimp only
  by_cases ht:0<t/\o.cg=t
  . rw[if_pos ht,if_pos ht]
    by_cases hk:o.val.kind=0
    . rw[if_pos hk]
      have hg:=h.good _ (fj hc).1
      exact Iv (mK hg).2.2.1 hk
    . rw[if_neg hk];rfl
  . rw[if_neg ht,if_neg ht]
theorem s5{t:Int}:∀{l:List Cell},(dM (l.filterMap (ny t))).Sublist (keysOf l)
 |[]=>List.Sublist.refl _
 |c::l=>by
  have ih:=s5 (t:=t) (l:=l)
  rw[List.filterMap_cons]
  cases hF:ny t c with
  |none=>exact List.Sublist.cons _ ih
  |some x=>
   have:x.1=c.key:=by unfold ny at hF;split at hF<;>cases hF;rfl
   show(x.1::dM (l.filterMap (ny t))).Sublist (c.key::keysOf l)
   rw[this];exact List.Sublist.cons_cons _ ih
theorem GH.range{d:List dA}{ow:List cX}{l:List Cell}(h:GH d ow l)(t:Int)(a b:ByteArray):z8 l t a b=(CH d ow t).filter fun p=>bW p.1 a b:=by
 have hs:=qT (t:=t) (ow:=ow) h.kV
 refine u6 ?_ ?_ fun p=> ?_
 . unfold z8
   exact(h.lr.sublist (List.filter_sublist.map _)).sublist s5
 . exact hs.sublist (List.filter_sublist.map _)
 . obtain⟨k,v⟩:=p
   rw[List.mem_filter,<-fW hs]
   have mZ:=h.Vz t k
   unfold z8
   rw[List.mem_filterMap]
   constructor
   . rintro⟨c,hc,hp⟩
     obtain⟨ki,hin⟩:=List.mem_filter.1 hc
     unfold ny at hp
     split at hp
     . cases hp
     . rename_i hk
       injection hp with hp
       injection hp with h1 h2
       subst h1 h2
       refine⟨?_,hin⟩
       unfold tv at mZ
       rw[(ff h.lr).1 ki]at mZ
       dsimp only at mZ
       cases hv:cV (CH d ow t) c.key with
       |none=>rw[hv]at mZ;rw[mZ]at hk;exact absurd rfl hk
       |some w=>rw[hv]at mZ;rw[mZ];rfl
   . rintro⟨hv,hin⟩
     rw[hv]at mZ
     have MT:v.kind≠0:=by
      rw[sB h.kV h.once]at hv
      have hd:cV d k=some v->v.kind≠0:=fun e=>h.dk _ ((fW h.kV).1 e)
      cases ho:bQ ow k with
      |none=>rw[ho]at hv;exact hd hv
      |some o=>
       rw[ho]at hv
       dsimp only at hv
       split at hv
       . split at hv
         . cases hv
         . rename_i h1;injection hv with hv;rw[<-hv];exact h1
       . exact hd hv
     unfold tv at mZ
     cases hg:cz l k with
     |none=>rw[hg]at mZ;rw[show v=bq from mZ.symm]at MT;exact absurd rfl MT
     |some c=>
      rw[hg]at mZ
      dsimp only at mZ
      obtain⟨h1,h2⟩:=fj hg
      refine⟨c,List.mem_filter.2 ⟨h1,by rw[h2];exact hin⟩,?_⟩
      unfold ny
      rw[if_neg (by rw[mZ];exact MT),mZ,h2];rfl
end Go.Pl
end
section
namespace Go.Pl
open Go Go.Sx
theorem Gf{l:List Cell}(hr:rising (keysOf l)){x:Cell}(k:ByteArray):cz (b5 l x) k=if k=x.key then some x else cz l k:=by
 have kg:=lS hr x
 by_cases hk:k=x.key
 . subst hk
   rw[if_pos rfl]
   exact(ff kg).1 ((fe hr).2 (.inl rfl))
 . rw[if_neg hk]
   cases hg:cz l k with
   |none=>
    refine jN fun c hc e=> ?_
    rcases(fe hr).1 hc with h|⟨h,_⟩
    . exact hk (by rw[<-e,h])
    . have:=(ff hr).1 h;rw[e,hg]at this;cases this
   |some c=>
    obtain⟨h1,h2⟩:=fj hg
    have:=(ff kg).1 ((fe hr).2 (.inr ⟨h1,by rw[h2];exact hk⟩))
    rw[h2]at this;exact this
theorem Gg{l:List Cell}(hr:rising (keysOf l))(k q:ByteArray):cz (iq l k) q=if q=k then none else cz l q:=by
 by_cases hq:q=k
 . rw[if_pos hq]
   exact jN fun c hc e=>((fq l k c).1 hc).2 (by rw[e,hq])
 . rw[if_neg hq]
   cases hg:cz l q with
   |none=>
    refine jN fun c hc e=> ?_
    have:=(ff hr).1 ((fq l k c).1 hc).1;rw[e,hg]at this;cases this
   |some c=>
    obtain⟨h1,h2⟩:=fj hg
    have:=(ff (lR hr k)).1 ((fq l k c).2 ⟨h1,by rw[h2];exact hq⟩)
    rw[h2]at this;exact this
theorem Gh{l:List Cell}(hr:rising (keysOf l)){F:Cell->Option Cell}(hk:iO l F)(k:ByteArray):cz (l.filterMap F) k=(cz l k).bind F:=by
 have kg:rising (keysOf (l.filterMap F)):=hr.sublist (oQ hk)
 cases hg:cz l k with
 |none=>
  refine jN fun c hc e=> ?_
  obtain⟨y,hy,hF⟩:=List.mem_filterMap.1 hc
  have:=(ff hr).1 hy
  rw[<-hk y hy c hF,e,hg]at this;cases this
 |some c=>
  obtain⟨h1,h2⟩:=fj hg
  show _=F c
  cases hF:F c with
  |none=>
   refine jN fun z hz e=> ?_
   obtain⟨y,hy,Qq⟩:=List.mem_filterMap.1 hz
   have Qr:=hk y hy z Qq
   have:=key_inj hr hy h1 (by rw[<-Qr,e,h2])
   subst this
   rw[hF]at Qq;cases Qq
  |some x=>
   have hx:=List.mem_filterMap.2 ⟨c,h1,hF⟩
   have:=(ff kg).1 hx
   rw[hk c h1 x hF,h2]at this;exact this
def xu(l:List Cell)(t:Int)(k:ByteArray)(v:Vl):Cell:=⟨k,((cz l k).getD noCell).val,t,v⟩
def kQ(l:List Cell)(t:Int)(k:ByteArray):Prop:=∃c,cz l k=some c/\c.cg≠0/\c.cg≠t
def ez(l:List Cell)(k:ByteArray)(v:Vl):Prop:=v.kind≠0\/((cz l k).getD noCell).val.kind≠0
instance{l t k}:Decidable (kQ l t k):=match h:cz l k with
 |none=>isFalse (by rintro⟨c,h1,_⟩;rw[h]at h1;cases h1)
 |some c=>if h2:c.cg≠0/\c.cg≠t then isTrue ⟨c,h,h2⟩else isFalse (by rintro⟨d,h1,h3⟩;rw[h]at h1;injection h1 with h1;subst h1;exact h2 h3)
instance{l k v}:Decidable (ez l k v):=by unfold ez;infer_instance
def j_(d:List dA)(ow:List cX)(o:cX):List cX:=
 if o.val.kind=0/\cV d o.key=none then ow.filter fun x=>decide (x.key≠o.key)
 else if(bQ ow o.key).isSome=true then ow.map fun x=>if x.key=o.key then{x with val:=o.val}else x
 else ow++[o]
theorem wK{ow:List cX}{k q:ByteArray}:bQ (ow.filter fun x=>decide (x.key≠k)) q=if q=k then none else bQ ow q:=by
 by_cases hq:q=k
 . rw[if_pos hq,fF]
   intro o ho
   have:=(List.mem_filter.1 ho).2
   rw[hq];simpa using this
 . rw[if_neg hq]
   unfold bQ
   rw[List.find?_filter]
   congr 1;funext x
   by_cases hx:x.key=q
   . simp[hx,hq]
   . simp[hx]
theorem DG{ow:List cX}{o:cX}(h:bQ ow o.key=none)(q:ByteArray):bQ (ow++[o]) q=if q=o.key then some o else bQ ow q:=by
 unfold bQ at h⊢
 rw[List.find?_append]
 by_cases hq:q=o.key
 . subst hq
   rw[h,if_pos rfl];simp
 . rw[if_neg hq]
   have:[o].find? (fun x=>decide (x.key=q))=none:=by simp[Ne.symm hq]
   rw[this];cases ow.find? _<;>rfl
theorem u9{k:ByteArray}{v:Vl}(q:ByteArray):∀{ow:List cX},bQ (ow.map fun x=>if x.key=k then{x with val:=v}else x) q=if q=k then(bQ ow q).map fun x=>{x with val:=v}else bQ ow q
 |[]=>by simp[bQ]
 |x::ow=>by
  have ih:=u9 (k:=k) (v:=v) q (ow:=ow)
  unfold bQ at ih⊢
  rw[List.map_cons,List.find?_cons,List.find?_cons]
  by_cases hx:x.key=k
  . rw[if_pos hx]
    dsimp only
    by_cases hq:x.key=q
    . simp[hq,<-hx]
    . simp only[decide_eq_false hq];exact ih
  . rw[if_neg hx]
    by_cases hq:x.key=q
    . have:q≠k:=fun e=>hx (by rw[hq,e])
      simp[hq,this]
    . simp only[decide_eq_false hq];exact ih
theorem gK{ow:List cX}(h:(ow.map cX.key).Nodup)(p:cX->Bool):((ow.filter p).map cX.key).Nodup:=h.sublist (List.filter_sublist.map _)
theorem GH.write{d:List dA}{ow:List cX}{l:List Cell}(h:GH d ow l){o:cX}(ht:0<o.cg)(hb:¬kQ l o.cg o.key)(hm:aC (xu l o.cg o.key o.val)=true):
 GH d (j_ d ow o) (if ez l o.key o.val then b5 l (xu l o.cg o.key o.val)else iq l o.key):=by
 have hc:=h.cell o.key
 have hval:((cz l o.key).getD noCell).val=(cV d o.key).getD bq:=by
  rw[hc];unfold gv
  cases bQ ow o.key with
  |some x=>rfl
  |none=>cases cV d o.key<;>rfl
 have hin:((cz l o.key).getD noCell).val.kind=0↔cV d o.key=none:=by
  rw[hval]
  cases hv:cV d o.key with
  |none=>simp[bq]
  |some v=>simp[h.dk _ ((fW h.kV).1 hv)]
 have hown:∀x,bQ ow o.key=some x->x.cg=o.cg:=fun x hx=>by
  refine Decidable.byContradiction fun hne=>hb ?_
  refine⟨⟨o.key,(cV d o.key).getD bq,x.cg,x.val⟩,?_,?_,hne⟩
  . rw[h.cell];unfold gv;rw[hx]
  . have:=h.own x (gm hx).1
    show x.cg≠0;omega
 by_cases hk:ez l o.key o.val
 . rw[if_pos hk]
   have hk':¬(o.val.kind=0/\cV d o.key=none):=fun⟨h1,h2⟩=>hk.elim (fun h3=>h3 h1) fun h3=>h3 (hin.2 h2)
   have Ok:∀q,bQ (j_ d ow o) q=if q=o.key then some o else bQ ow q:=fun q=>by
    unfold j_
    rw[if_neg hk']
    cases hx:bQ ow o.key with
    |none=>rw[if_neg (by simp)];exact DG hx q
    |some x=>
     rw[if_pos (show(some x).isSome=true from rfl),u9]
     by_cases hq:q=o.key
     . subst hq
       rw[if_pos rfl,if_pos rfl,hx]
       have h1:=hown x hx
       have h2:=(gm hx).2
       obtain⟨a,b,c⟩:=x
       obtain⟨a',b',c'⟩:=o
       dsimp only at h1 h2⊢
       subst h1 h2;rfl
     . rw[if_neg hq,if_neg hq]
   refine⟨h.kV,?_,h.dk,?_,lS h.lr _,fun c GM=> ?_,fun q=> ?_⟩
   . unfold j_
     rw[if_neg hk']
     split
     . have e:(ow.map fun x=>if x.key=o.key then{x with val:=o.val}else x).map cX.key=ow.map cX.key:=by
        rw[List.map_map];congr 1;funext x;dsimp only[Function.comp];split<;>rfl
       rw[e];exact h.once
     . rename_i hno
       have hno:bQ ow o.key=none:=by simpa using hno
       rw[List.map_append]
       refine List.nodup_append.2 ⟨h.once,by simp,fun a ha b hb e=> ?_⟩
       obtain⟨x,hx,rfl⟩:=List.mem_map.1 ha
       have hb:b=o.key:=by simpa using hb
       exact fF.1 hno x hx (e.trans hb)
   . intro x hx
     unfold j_ at hx
     rw[if_neg hk']at hx
     split at hx
     . obtain⟨y,hy,rfl⟩:=List.mem_map.1 hx
       split
       . exact h.own y hy
       . exact h.own y hy
     . rcases List.mem_append.1 hx with hx|hx
       . exact h.own x hx
       . rw[List.mem_singleton]at hx;rw[hx];exact ht
   . rcases(fe h.lr).1 GM with rfl|⟨GM,_⟩
     . exact hm
     . exact h.good c GM
   . rw[Gf h.lr]
     show(if q=o.key then _ else _)=_
     unfold gv
     rw[Ok q]
     by_cases hq:q=o.key
     . rw[if_pos hq,if_pos hq]
       subst hq
       show some (xu l o.cg o.key o.val)=some _
       unfold xu;rw[hval]
     . rw[if_neg hq,if_neg hq];exact h.cell q
 . rw[if_neg hk]
   have qW:o.val.kind=0:=Decidable.byContradiction fun h1=>hk (.inl h1)
   have hk2:cV d o.key=none:=hin.1 (Decidable.byContradiction fun h1=>hk (.inr h1))
   have hw:j_ d ow o=ow.filter fun x=>decide (x.key≠o.key):=by unfold j_;rw[if_pos ⟨qW,hk2⟩]
   rw[hw]
   refine⟨h.kV,gK h.once _,h.dk,fun x hx=>h.own x (List.mem_filter.1 hx).1,lR h.lr _,fun c GM=>h.good c ((fq l _ c).1 GM).1,fun q=> ?_⟩
   rw[Gg h.lr]
   unfold gv
   rw[wK]
   by_cases hq:q=o.key
   . rw[if_pos hq,if_pos hq];subst hq;rw[hk2];rfl
   . rw[if_neg hq,if_neg hq];exact h.cell q
def rH(t x:Int):Bool:=decide (¬0<t\/x=t)
def Ol(ow:List cX)(t:Int):List cX:=ow.filter fun o=> !rH t o.cg
def uj(d:List dA)(ow:List cX)(t:Int)(bZ:Bool):List dA:=(ow.filter fun o=>rH t o.cg).foldl (fun d o=>if bZ=true then pM d o.key o.val else d) d
def Jv(ow:List cX)(t:Int):Nat:=(ow.filter fun o=>rH t o.cg).length
theorem o_{bZ:Bool}:∀{ow:List cX} {d:List dA},rising (dM d)->rising (dM (ow.foldl (fun d o=>if bZ=true then pM d o.key o.val else d) d))
 |[],_,h=>h
 |o::ow,d,h=>by
  rw[List.foldl_cons]
  refine o_ (ow:=ow) ?_
  split
  . exact gJ h
  . exact h
theorem u_{k:ByteArray}{bZ:Bool}:∀{ow:List cX} {d:List dA},rising (dM d)->(ow.map cX.key).Nodup->
 cV (ow.foldl (fun d o=>if bZ=true then pM d o.key o.val else d) d) k=match bQ ow k with|some o=>if bZ=true then(if o.val.kind=0 then none else some o.val)else cV d k|none=>cV d k
 |[],d,_,_=>rfl
 |o::ow,d,h,hn=>by
  have hn':=List.nodup_cons.1 (by simpa using hn:(o.key::ow.map cX.key).Nodup)
  rw[List.foldl_cons]
  have Qi:rising (dM (if bZ=true then pM d o.key o.val else d)):=by
   split
   . exact gJ h
   . exact h
  rw[u_ Qi hn'.2]
  by_cases hk:o.key=k
  . have h1:bQ ow k=none:=fF.2 fun x hx e=>hn'.1 (by rw[hk,<-e];exact List.mem_map.2 ⟨x,hx,rfl⟩)
    have h2:bQ (o::ow) k=some o:=by unfold bQ;rw[List.find?_cons];simp[hk]
    rw[h1,h2]
    dsimp only
    by_cases hc:bZ=true
    . rw[if_pos hc,if_pos hc,oT h,if_pos hk.symm]
    . rw[if_neg hc,if_neg hc]
  . have h2:bQ (o::ow) k=bQ ow k:=by unfold bQ;rw[List.find?_cons];simp[hk]
    have h3:cV (if bZ=true then pM d o.key o.val else d) k=cV d k:=by
     split
     . rw[oT h,if_neg fun e=>hk e.symm]
     . rfl
    rw[h2,h3]
theorem s6{ow:List cX}(hn:(ow.map cX.key).Nodup)(p:cX->Bool)(q:ByteArray):bQ (ow.filter p) q=(bQ ow q).bind fun o=>if p o=true then some o else none:=by
 cases ho:bQ ow q with
 |none=>
  rw[fF]at ho
  exact fF.2 fun o h=>ho o (List.mem_filter.1 h).1
 |some o=>
  obtain⟨h1,h2⟩:=gm ho
  show _=if p o=true then some o else none
  split
  . rename_i hp
    have:=qh (gK hn p) (List.mem_filter.2 ⟨h1,hp⟩)
    rw[h2]at this;exact this
  . rename_i hp
    refine fF.2 fun x hx e=> ?_
    obtain⟨h3,h4⟩:=List.mem_filter.1 hx
    have h5:=qh hn h3
    rw[e,ho]at h5;injection h5 with h5;subst h5
    exact hp h4
def xG(bZ:Bool):Cell->Cell×Bool:=if bZ=true then dH else gT
theorem Gi(bZ:Bool):Bq (xG bZ):=by
 cases bZ
 . exact Iq
 . exact uZ
theorem va{c:Cell}(h:(gT c).2=true):(gT c).1.key=c.key:=by
 unfold gT at h⊢
 by_cases hk:c.val.kind=0
 . rw[if_pos hk]at h;cases h
 . rw[if_neg hk]
theorem y2{c:Cell}(h:(dH c).2=true):(dH c).1.key=c.key:=by
 unfold dH at h⊢
 rw[va h]
 split<;>rfl
theorem ve{l:List Cell}{p:Int->Bool}(bZ:Bool):iO l (kW p (xG bZ)):=fun c hc x hx=>by
 unfold kW at hx
 split at hx
 . split at hx
   . injection hx with hx
     rename_i h1 h2
     subst hx
     cases bZ with
     |true=>exact y2 h2
     |false=>exact va h2
   . cases hx
 . injection hx with hx;rw[hx]
theorem GH.ends{d:List dA}{ow:List cX}{l:List Cell}(h:GH d ow l)(hf:GW l)(t:Int)(bZ:Bool):
 GH (uj d ow t bZ) (Ol ow t) (Ez l (rH t) (xG bZ))/\wZ l (rH t)=Jv ow t:=by
 have hkk:=ve (l:=l) (p:=rH t) bZ
 have I9:rising (dM (uj d ow t bZ)):=o_ h.kV
 have hval:=fun k=>u_ (k:=k) (bZ:=bZ) h.kV (gK h.once fun o=>rH t o.cg)
 refine⟨⟨I9,gK h.once _,fun p hp=> ?_,fun o ho=>h.own o (List.mem_filter.1 ho).1,h.lr.sublist (oQ hkk),fun c hc=> ?_,fun k=> ?_⟩,?_⟩
 . obtain⟨k,v⟩:=p
   have hv:=(fW I9).2 hp
   have D7:=(hval k).symm.trans hv
   have hd:cV d k=some v->v.kind≠0:=fun e=>h.dk _ ((fW h.kV).1 e)
   show v.kind≠0
   split at D7
   . split at D7
     . split at D7
       . cases D7
       . rename_i h1;injection D7 with D7;rw[<-D7];exact h1
     . exact hd D7
   . exact hd D7
 . obtain⟨y,hy,hF⟩:=List.mem_filterMap.1 hc
   unfold kW at hF
   split at hF
   . rename_i hp
     split at hF
     . injection hF with hF;subst hF
       rename_i h2
       exact(Gi bZ y (h.good y hy) hp.1 (hf y hy) h2).2.1
     . cases hF
   . injection hF with hF;rw[<-hF];exact h.good y hy
 . show cz (l.filterMap _) k=_
   rw[Gh h.lr hkk,h.cell]
   have hv:=hval k
   rw[s6 h.once]at hv
   unfold gv
   show _=match bQ (ow.filter fun o=> !rH t o.cg) k with|some o=>_|none=>_
   rw[s6 h.once]
   cases ho:bQ ow k with
   |none=>
    rw[ho]at hv
    have hv:cV (uj d ow t bZ) k=cV d k:=hv
    dsimp only[Option.bind]
    rw[hv]
    cases hd:cV d k with
    |none=>rfl
    |some v=>
     show kW (rH t) (xG bZ) ⟨k,v,0,bq⟩=_
     unfold kW
     rw[if_neg (by simp)];rfl
   |some o=>
    rw[ho]at hv
    have ML:=h.own o (gm ho).1
    have hm:=h.good _ (fj (show cz l k=some ⟨k,(cV d k).getD bq,o.cg,o.val⟩ by rw[h.cell];unfold gv;rw[ho])).1
    show kW (rH t) (xG bZ) ⟨k,(cV d k).getD bq,o.cg,o.val⟩=_
    unfold kW
    dsimp only[Option.bind]at hv⊢
    cases hp:rH t o.cg with
    |false=>
     rw[hp]at hv
     have hv:cV (uj d ow t bZ) k=cV d k:=hv
     rw[if_neg (by simp)]
     simp only[Bool.not_false,if_true]
     rw[hv]
    |true=>
     have hv:cV (uj d ow t bZ) k=if bZ=true then(if o.val.kind=0 then none else some o.val)else cV d k:=by rw[hp]at hv;exact hv
     rw[if_pos ⟨by omega,rfl⟩]
     show _=(cV (uj d ow t bZ) k).map fun v=>(⟨k,v,0,bq⟩:Cell)
     rw[hv]
     cases bZ with
     |true=>
      show(if(dH ⟨k,(cV d k).getD bq,o.cg,o.val⟩).2=true then some (dH ⟨k,(cV d k).getD bq,o.cg,o.val⟩).1 else none)=(if o.val.kind=0 then none else some o.val:Option Vl).map fun v=>(⟨k,v,0,bq⟩:Cell)
      have e:dH ⟨k,(cV d k).getD bq,o.cg,o.val⟩=if o.val.kind=0 then(noCell,false)else(⟨k,o.val,0,bq⟩,true):=by
       unfold dH gT;rw[if_pos ML]
      rw[e]
      by_cases hk:o.val.kind=0
      . rw[if_pos hk,if_pos hk];rfl
      . rw[if_neg hk,if_neg hk];rfl
     |false=>
      show(if(gT ⟨k,(cV d k).getD bq,o.cg,o.val⟩).2=true then some (gT ⟨k,(cV d k).getD bq,o.cg,o.val⟩).1 else none)=(cV d k).map fun v=>(⟨k,v,0,bq⟩:Cell)
      cases hd:cV d k with
      |none=>rfl
      |some v=>
       have MT:=h.dk _ ((fW h.kV).1 hd)
       have e:gT ⟨k,(some v).getD bq,o.cg,o.val⟩=(⟨k,v,0,bq⟩,true):=by
        unfold gT;exact if_neg MT
       rw[e];rfl
 . unfold wZ Jv
   rw[<-List.length_map (f:=Cell.key),<-List.length_map (f:=cX.key)]
   refine DC ((o7 h.lr).sublist (List.filter_sublist.map _)) (gK h.once _) fun k=> ?_
   rw[List.mem_map,List.mem_map]
   constructor
   . rintro⟨c,hc,rfl⟩
     obtain⟨h1,h2⟩:=List.mem_filter.1 hc
     have h2:=of_decide_eq_true h2
     have hg:=(ff h.lr).1 h1
     rw[h.cell]at hg
     unfold gv at hg
     cases ho:bQ ow c.key with
     |none=>
      rw[ho]at hg
      obtain⟨v,_,hv⟩:=Option.map_eq_some_iff.1 hg
      rw[<-hv]at h2;exact absurd rfl h2.1
     |some o=>
      rw[ho]at hg
      injection hg with hg
      refine⟨o,List.mem_filter.2 ⟨(gm ho).1,?_⟩,(gm ho).2⟩
      have:c.cg=o.cg:=by rw[<-hg]
      rw[<-this];exact h2.2
   . rintro⟨o,ho,rfl⟩
     obtain⟨h1,h2⟩:=List.mem_filter.1 ho
     have ho:=qh h.once h1
     have hg:cz l o.key=some ⟨o.key,(cV d o.key).getD bq,o.cg,o.val⟩:=by rw[h.cell];unfold gv;rw[ho]
     refine⟨_,List.mem_filter.2 ⟨(fj hg).1,decide_eq_true ⟨?_,h2⟩⟩,rfl⟩
     have:=h.own o h1
     show o.cg≠0;omega
end Go.Pl
end
section
namespace Go.Pl
open Go Go.Sx
theorem aW.good{Q:ah}:∀{d:Nat} {no:Int} {lo hi:ByteArray} {g:aG},aW Q d no lo hi g->mU g.2:=by
 intro d
 induction d with
 |zero=>
  rintro no lo hi g ⟨n,h1,h2,h3,rfl,h5⟩ c hc
  obtain⟨_,_,hm,_⟩:=(cj h3).1 h1.1.nd.may
  exact⟨hm c hc,h1.1.fl c hc⟩
 |succ d ih=>
  rintro no lo hi g ⟨n,ps,h1,h2,h3,h4,h5,rfl⟩ c hc
  obtain⟨p,hp,Qo⟩:=List.mem_flatMap.1 hc
  obtain⟨i,hi⟩:=List.getElem?_of_mem hp
  obtain⟨ct,hk⟩:∃ct,n.kids[i]? =some ct:=⟨_,List.getElem?_eq_getElem (by have:=(List.getElem?_eq_some_iff.1 hi).1;omega)⟩
  exact ih (h5 i ct p hk hi).1 c Qo
theorem aU.good{Q:ah}{g:aG}(h:aU Q g):mU g.2:=by
 rcases h with⟨_,rfl⟩|⟨_,_,h,_⟩
 . intro c hc;cases hc
 . exact h.good
theorem gi.good{sT b:Nat}{P:Value}{I:Chunk->Prop}{Qb:ah}{g:aG}{H:Chunk}(h:gi sT b P I Qb g H):mU g.2:=by
 obtain⟨Q,_,h,_⟩:=h;exact h.good
theorem mU.fl{l:List Cell}(h:mU l):GW l:=fun c hc=>(h c hc).2
theorem mU.may{l:List Cell}(h:mU l):∀c∈l,aC c=true:=fun c hc=>(h c hc).1
def vH(t:Int):Bool:=decide (1<=t)&&decide (t<=1099511627776)
def lu(t:Int)(k:ByteArray)(v:Vl)(g g':aG)(e:Int):Prop:=
 ((vH t=false\/bP k=false\/bT v=false)/\e=1/\g'=g)\/
 ((vH t=true/\bP k=true/\bT v=true)/\kQ g.2 t k/\e=9/\g'=g)\/
 ((vH t=true/\bP k=true/\bT v=true)/\¬kQ g.2 t k/\e=0/\g'.2=if ez g.2 k v then b5 g.2 (xu g.2 t k v)else iq g.2 k)\/
 ((vH t=true/\bP k=true/\bT v=true)/\¬kQ g.2 t k/\e=4/\g'=g/\20<=g.2.length/\ez g.2 k v)
theorem mh{l:List Cell}(hl:mU l){t:Int}{k:ByteArray}{v:Vl}(h:vH t=true/\bP k=true/\bT v=true):aC (xu l t k v)=true:=by
 obtain⟨h1,h2,h3⟩:=h
 unfold vH at h1
 simp only[Bool.and_eq_true,decide_eq_true_eq]at h1
 refine sx h2 ?_ h3 (by show 0<=t;omega) h1.2 (.inl (by show 0<t;omega))
 show bT ((cz l k).getD noCell).val=true
 cases hg:cz l k with
 |none=>exact sy
 |some c=>exact(mK (hl c (fj hg).1).1).2.1
theorem pT{l:List Cell}(hl:mU l){t:Int}{k:ByteArray}{v:Vl}(h:v.f<2^64):(xu l t k v).val.f<2^64/\(xu l t k v).new.f<2^64:=by
 refine⟨?_,h⟩
 exact(Ip hl.fl k).1
end Go.Pl
end
section
namespace Go.Pl
open Go Go.Sx
def dz(nm:ByteArray)(id:Int):az:=⟨nm,id,false,List.replicate 32 0⟩
def k6(next:Int)(l:List az)(nm:ByteArray):(Int×List az)×Int:=
 if ej nm=false then((0,[]),1)else if 0<=findAt (named nm) 0 l then((0,[]),7)
 else if 4<=l.length\/1099511627776<=next then((0,[]),4)else((next+1,l++[dz nm (next+1)]),0)
theorem qi{α:Type}(p:α->Bool):∀(l:List α) (i:Nat),findAt p i l<(i:Int)+l.length/\(findAt p i l= -1\/(i:Int)<=findAt p i l):=by
 intro l
 induction l with
 |nil=>
  intro i
  refine⟨?_,.inl rfl⟩
  show(-1:Int)<(i:Int)+((0:Nat):Int)
  omega
 |cons x l ih=>
  intro i
  rw[findAt]
  split
  . simp only[List.length_cons];omega
  . have:=ih (i+1)
    simp only[List.length_cons]
    omega
end Go.Pl
end
section
namespace Go.Pl
open Go Go.Sx
end Go.Pl
end
section
namespace Go.Pl
open Go Go.Sx
def eA(m:List Int):List Int:=m.filter fun x=>decide (x≠0)
def cU(xs:List az):List Int:=xs.flatMap fun s=>eA s.map
def Iw(xs:List az):List Int:=(cU xs).mergeSort fun x y=>decide (x<=y)
def same(n:Int)(m:List Int):List Int:=m.filter fun x=>decide (x=n)
def LJ(n:Int)(xs:List az):List Int:=xs.flatMap fun s=>same n s.map
def Gj(k:Nat)(xs:List az):List Int:=(List.range k).flatMap fun(j:Nat)=>LJ ((j:Int)+1) xs
def Ix(xs:List az):List Int:=Gj 255 xs
def z_:Nat->Int->List Int->Int×Bool
 |0,_,_=>(0,false)
 |k+1,n,l=>if n∈l then z_ k (n+1) l else(n,true)
def Om(xs:List az):Int×Bool:=z_ 64 32 (Iw xs)
def Bj(xs:List az):Int×Bool:=z_ 64 32 (Ix xs)
theorem y3{inv:Bool}:∀(m:List Int) (no:Nat) (a a':List Int),kM inv no m a=some a'->∀x∈m,x=0\/(1<=x/\x<=255):=by
 intro m
 induction m with
 |nil=>intro no a a' _ x hx;cases hx
 |cons y m ih=>
  intro no a a' h x hx
  rw[kM]at h
  split at h
  . rename_i h0
    rcases List.mem_cons.1 hx with rfl|hx
    . exact .inl h0
    . exact ih _ _ _ h x hx
  . split at h
    . cases h
    . rename_i hc
      rcases List.mem_cons.1 hx with rfl|hx
      . have h1:32<=x:=Int.not_lt.1 fun hh=>hc (.inl hh)
        have h2:x<96:=Int.not_le.1 fun hh=>hc (.inr (.inl hh))
        exact .inr (by omega)
      . exact ih _ _ _ h x hx
theorem wL{next:Int}{all:List az}:∀(l:List az) (i:Nat) (last:Int) (a:List Int),eU next all i last a l=true->∀s∈l,∀x∈s.map,x=0\/(1<=x/\x<=255):=by
 intro l
 induction l with
 |nil=>intro i last a _ s hs;cases hs
 |cons t l ih=>
  intro i last a h s hs
  rw[eU]at h
  split at h
  . cases h
  . split at h
    . cases h
    . rename_i a' GX
      rcases List.mem_cons.1 hs with rfl|hs
      . exact y3 _ _ _ _ GX
      . exact ih _ _ _ h s hs
theorem DH{next:Int}{l:List az}(h:gV next l=true):∀s∈l,∀x∈s.map,x=0\/(1<=x/\x<=255):=by
 unfold gV at h
 split at h
 . cases h
 . exact wL _ _ _ _ h
end Go.Pl
end
section
namespace Go.Pl
open Go Go.Sx
def az.at(s:az)(no:Int):Int:=s.map.getD no.toNat 0
def az.side(s:az):Prop:=∀a∈s.map,a=0\/(32<=a/\a<96)
theorem az.mj{s:az}{n:Nat}{x:Int}(h:s.map[n]? =some x):s.at (n:Int)=x:=by
 unfold az.at;rw[Int.toNat_natCast,List.getD_eq_getElem?_getD,h];rfl
def lz(s:az)(no:Int):Int:=if s.at no≠0 then s.at no else no
def cH(s:az)(pg:Int->Int×List UInt8)(no:Int):Int×List UInt8:=if no<1\/32<=no then(3,[])else pg (lz s no)
def vS(Q:ah)(s:az)(no:Int):Bool:=if s.inv=true\/s.at no≠0 then false else if no=1 then true else hasB (Q (lz s 1)) no
def lose(s:az):az:={s with inv:=true,map:=List.replicate 32 0}
def EA(s:az)(no at_:Int):az:={s with map:=s.map.set no.toNat at_}
def Cm:List az->Nat->List Int->List az
 |xs,_,[]=>xs
 |xs,k,no::l=>match Om xs with
  |(_,false)=>xs.modify k lose
  |(a,true)=>Cm (xs.modify k fun s=>EA s no a) k l
def Iy(Q:ah)(xs:List az)(k:Nat)(CU:List Int):List az:=match xs[k]?with
 |none=>xs
 |some s=>Cm xs k (CU.filter (vS Q s))
def On(Q:ah)(but:Int)(CU:List Int)(xs:List az)(k:Nat):List az:=match xs[k]?with
 |none=>xs
 |some s=>if s.id=but then xs else Iy Q xs k CU
def Iz(Q:ah)(but:Int)(CU:List Int)(xs:List az):List az:=(List.range xs.length).foldl (On Q but CU) xs
def Oo(c:iU):List Int:=((List.range 32).map fun k:Nat=>(k:Int)).filter fun no=>(c no).isSome
def Oq(was:List az)(s:az):az:=was.getD (findAt (named s.name) 0 was).toNat (lose s)
def LK(w s:az)(n:Nat):List (Int×Int):=((List.range n).map fun k:Nat=>(s.at k,(k:Int))).filter fun p=>decide (p.1≠0/\w.at p.2≠p.1)
def sides(was xs:List az):List (Int×Int):=xs.flatMap fun s=>LK (Oq was s) s 32
def Gk(Q:ah)(c:iU)(l:List (Int×Int)):iU:=l.foldl (fun c p=>mW c p.1 (Q p.2)) c
def IA(Q:ah)(next:Int)(xs:List az)(c:iU):iU:=if(encode next xs).1=Q 0 then c else mW c 0 (encode next xs).1
def IB(Q:ah)(next:Int)(was xs:List az)(c:iU):iU:=IA Q next xs (Gk Q c (sides was xs))
def LL(c:iU)(n:Nat):List s_:=((List.range n).map fun k:Nat=>(k:Int)).filterMap fun no=>(c no).map fun b=>(no,b)
structure fY(hs:List Chunk)(m:Int->Option Value)(c:iU):Prop where
 none:∀no,c no=none->m no=none
 some:∀no b,c no=some b->∃v,m no=some v/\Row aB 1 hs v b
theorem fY.empty(hs:List Chunk):fY hs (fun _=>Option.none) (fun _=>Option.none):=⟨fun _ _=>rfl,fun _ _ h=>by cases h⟩
theorem fY.mono{hs hs':List Chunk}{m:Int->Option Value}{c:iU}(h:fY hs m c)(hh:∀b o,Has hs b o->Has hs' b o):fY hs' m c:=
 ⟨h.none,fun no b e=>by obtain⟨v,h1,h2⟩:=h.some no b e;exact⟨v,h1,h2.mono hh⟩⟩
theorem fY.put{hs:List Chunk}{m:Int->Option Value}{c:iU}(h:fY hs m c){no:Int}{v:Value}{b:List UInt8}(hr:Row aB 1 hs v b):fY hs (fun z=>if z=no then Option.some v else m z) (mW c no b):=by
 refine⟨fun z e=> ?_,fun z b' e=> ?_⟩
 . unfold mW at e;try dsimp only
   by_cases hz:z=no
   . rw[if_pos hz]at e;cases e
   . rw[if_neg hz]at e⊢;exact h.none z e
 . unfold mW at e;try dsimp only
   by_cases hz:z=no
   . rw[if_pos hz]at e⊢;cases e;exact⟨v,rfl,hr⟩
   . rw[if_neg hz]at e⊢;exact h.some z b' e
theorem fY.is{hs:List Chunk}{m:Int->Option Value}{c:iU}(h:fY hs m c)(no:Int):(m no).isSome=(c no).isSome:=by
 cases e:c no with
 |none=>rw[h.none no e];rfl
 |some b=>obtain⟨v,h1,_⟩:=h.some no b e;rw[h1];rfl
theorem fY.grow{G K:Chunk}{hs:List Chunk}{m:Int->Option Value}{c:iU}(h:fY (G::hs) m c):fY ((G++K)::hs) m c:=h.mono fun b o hb=>Has.j4 (by have:=hb.mem;simp only[List.flatten_cons,List.mem_append]at this⊢;rcases this with h|h;exact .inl (.inl h);exact .inr h)
theorem Cn{s:az}(b:Bool):splice (aq s) 2 [.bool b]=aq {s with inv:=b}:=rfl
end Go.Pl
end
section
namespace Go.Pl
open Go Go.Sx
def Jw(pg VA:Pg):Prop:=∀no,1<=no->no<32->pg no=VA no
theorem Jw.refl(pg:Pg):Jw pg pg:=fun _ _ _=>rfl
end Go.Pl
end
section
namespace Go.Pl
open Go Go.Sx
def j5(t:Int)(l:List Cell):Prop:=∀c∈l,c.cg=t/\c.val=bq
theorem j5.nil(t:Int):j5 t []:=fun _ h=>by cases h
theorem j5.free{t:Int}{l:List Cell}(h:j5 t l)(k:ByteArray):¬kQ l t k:=by
 rintro⟨c,hc,_,h2⟩;exact h2 (h c (fj hc).1).1
theorem j5.val{t:Int}{l:List Cell}(h:j5 t l)(k:ByteArray):((cz l k).getD noCell).val=bq:=by
 cases hg:cz l k with
 |none=>rfl
 |some c=>exact(h c (fj hg).1).2
theorem j5.write{t:Int}{g g':aG}(h:j5 t g.2)(hr:rising (keysOf g.2)){k:ByteArray}{v:Vl}{e:Int}(hw:lu t k v g g' e):j5 t g'.2:=by
 rcases hw with⟨_,_,rfl⟩|⟨_,_,_,rfl⟩|⟨_,_,_,h2⟩|⟨_,_,_,rfl,_⟩
 . exact h
 . exact h
 . rw[h2]
   split
   . intro c hc
     rcases(fe hr).1 hc with rfl|⟨hc,_⟩
     . exact⟨rfl,h.val k⟩
     . exact h c hc
   . intro c hc;exact h c ((fq _ k c).1 hc).1
 . exact h
end Go.Pl
end
section
namespace Go.Pl
open Go Go.Sx
theorem DI{t:Int}{k:ByteArray}{v:Vl}{g g':aG}{e:Int}(h:lu t k v g g' e)(hok:vH t=true/\bP k=true/\bT v=true)(hb:¬kQ g.2 t k)(hl:g.2.length<20):e=0/\g'.2=if ez g.2 k v then b5 g.2 (xu g.2 t k v)else iq g.2 k:=by
 rcases h with⟨h1|h1|h1,_⟩|⟨_,h2,_⟩|⟨_,_,h1,h2⟩|⟨_,_,_,_,h1,_⟩
 . rw[hok.1]at h1;cases h1
 . rw[hok.2.1]at h1;cases h1
 . rw[hok.2.2]at h1;cases h1
 . exact absurd h2 hb
 . exact⟨h1,h2⟩
 . omega
theorem AW{t:Int}{k:ByteArray}{v:Vl}{g g':aG}{e:Int}(h:lu t k v g g' e)(hok:vH t=true/\bP k=true/\bT v=true)(hb:kQ g.2 t k):e=9/\g'=g:=by
 rcases h with⟨h1|h1|h1,_⟩|⟨_,_,h1,h2⟩|⟨_,h2,_⟩|⟨_,h2,_⟩
 . rw[hok.1]at h1;cases h1
 . rw[hok.2.1]at h1;cases h1
 . rw[hok.2.2]at h1;cases h1
 . exact⟨h1,h2⟩
 . exact absurd hb h2
 . exact absurd hb h2
def kK:ByteArray:=⟨#[107]⟩
def vF:Vl:=⟨1,4611686018427387904,⟨#[]⟩⟩
def cK:Cell:=⟨kK,bq,1,vF⟩
theorem IC{g:aG}{e:Int}(h:lu 1 kK vF ([],[]) g e):e=0/\g.2=[cK]:=by
 obtain⟨h1,h2⟩:=DI h ⟨by decide,by decide,by decide⟩ (fun⟨c,hc,_⟩=>by cases hc) (by show 0<20;decide)
 refine⟨h1,h2.trans ?_⟩
 rw[if_pos (.inl (by decide)),<-uU (l:=[]) List.Pairwise.nil];decide
theorem ID{g g':aG}{e:Int}(hg:g.2=[cK])(h:lu 2 kK vF g g' e):e=9/\g'=g:=
 AW h ⟨by decide,by decide,by decide⟩ ⟨cK,by rw[hg];decide,by decide,by decide⟩
theorem Ot:tv [cK] 1 kK=vF:=by decide
theorem Ou:tv [cK] 2 kK=bq:=by decide
theorem Ov:wZ [cK] (fun x=>decide (x=1))=1:=by decide
theorem Ow:Ez [cK] (fun x=>decide (x=1)) dH=[⟨kK,vF,0,bq⟩]:=by decide
theorem Ox:tv [⟨kK,vF,0,bq⟩] 0 kK=vF:=by decide
end Go.Pl
end
section
namespace Go.Sx
open Go
section
variable[au]{X:Cx}{k:dx}{R:ee}{hs:List Chunk}{ops:Array Oper}{l:List Oper}{T:aE}{d ty':Nat}{pos:String}{after:Array Edge}{gd:Option (Nat×Bool)}
omit [au] in
theorem AX{P:Program}{t:TypeId}{ms:Array (String×TypeId)}(hu:P.underlying t=some (.interface ms))(w:World):(Op.equal t .nilIface .nilIface).run P w= .ok true w:=by
 show(Op.equalIn (9999+1) t .nilIface .nilIface).run P w=_
 rw[Op.equalIn,Sem.run_bind,run_underlying hu]
 rfl
theorem OT.IE{t u:Nat}{x:Operand}{ms:Array (String×TypeId)}(hT:T.ok X.P)(ht:ty T t=some (.one (.interface ms)))(hg:dX ops R gd=some true)(hx:ev R x=some .nilIface)(hdn:Nat.ble (d+1) X.n=true)
 (h:OT X ops l k ((d,.bool true)::R) hs):OT X ops (⟨some d,.binOp .eql t x (.const .nilIface) u,ty',pos,after,gd⟩::l) k R hs:=by
 refine OT.value hg rfl hdn fun a w ha hm=>⟨_,hs,w,?_,hm,h⟩
 have:=AX (hT.ty ht).1 w
 have hy:a.eval (.const .nilIface)= .nilIface:=rfl
 simp only[execOp,ha.ev hx,hy]
 rw[Sem.run_bind,Sem.run_bind]
 have hg:(eqGuard .eql t x (.const .nilIface) .nilIface .nilIface).run X.P w= .ok () w:=by cases x<;>rfl
 rw[hg]
 show Result.andThen (((Op.equal t .nilIface .nilIface)>>=fun b=>pure (Value.bool b)).run X.P w) _=_
 rw[Sem.run_bind,this]
 rfl
end
end Go.Sx
namespace Go.Pl
open Go Go.Sx
theorem J1{Q:ah}{no:Int}(h:aD no):aK Q no=(0,Q no):=if_pos h
theorem Jx(m:Nat):IntKind.u8.wrap (m:Int)=((UInt8.ofNat m).toNat:Int):=by
 rw[UInt8.toNat_ofNat',IntKind.wrap_u8];omega
theorem rC{G:Chunk}{r:List Chunk}{b:Nat}{o:Obj}(h:Has [G] b o):Has (G::r) b o:=by
 cases h with
 |here h=>exact .here h
 |there h=>cases h
def sV:az:=⟨⟨#[115]⟩,1,false,(List.replicate 32 0).set 3 40⟩
def Br:az:=⟨⟨#[]⟩,0,false,List.replicate 32 0⟩
theorem wm:sV.side:=by unfold az.side sV;decide
theorem xH:(aq sV).length=35:=by decide
def vT:ah:=ef (ef tu ((3:Nat):Int) (iJ [110,111,119])) ((40:Nat):Int) (iJ [119,97,115])
theorem y4:cH sV (aK vT) 3=(0,iJ [119,97,115]):=by kernel_rfl
theorem y5:cH sV (aK vT) 4=(0,dO 256):=by kernel_rfl
theorem wM:cH sV (aK vT) 40=(3,[]):=by kernel_rfl
theorem y6:di (dO 256)=((0,[]),0):=by kernel_rfl
theorem Gl{s:az}{Q:ah}{I:Chunk->Prop}{no:Int}{e:Int}{bs:List UInt8}{H:Chunk}(h:mO I (fun _ _=>False) (cH s (aK Q) no) e bs H):e=(cH s (aK Q) no).1/\bs=(cH s (aK Q) no).2/\I H:=by
 rcases h with⟨rfl,h2,h3⟩|⟨h1,rfl,⟨h2,h3⟩|h3⟩
 . rw[h2];exact⟨rfl,rfl,h3⟩
 . refine⟨h2.symm,?_,h3⟩
   unfold cH at h2⊢
   split
   . rfl
   . rename_i hc
     rw[if_neg hc]at h2
     unfold aK at h2⊢
     split
     . rename_i hm;rw[if_pos hm]at h2;exact(h1 h2.symm).elim
     . rfl
 . exact h3.elim
end Go.Pl
end
section
namespace Go.Pl
open Go Go.Sx
def rQ(x:Int)(m:Nat):Nat:=(BitVec.ofInt 64 x&&&BitVec.ofInt 64 (m:Int)).toNat
theorem yA{x:Int}{m:Nat}(hm:m<1000):rQ x m<=m:=by
 unfold rQ
 rw[BitVec.toNat_and,CC (by omega)]
 exact Nat.and_le_right
theorem IF{x:Int}{m:Nat}(hm:m<1000):IntKind.i64.wrap ((BitVec.ofInt IntKind.i64.bits x&&&BitVec.ofInt IntKind.i64.bits (m:Int)).toNat:Int)=((rQ x m:Nat):Int):=by
 have:=yA (x:=x) hm
 show IntKind.i64.wrap ((rQ x m:Nat):Int)=_
 rw[wrap_i64 (by omega) (by omega)]
def j6(f:Nat->ByteArray)(i n:Nat)(l:List Cell):Prop:=∀c∈l,∃q,i<=q/\q<n/\c.key=f q
theorem j6.write{f:Nat->ByteArray}{n:Nat}{g g':aG}{t:Int}{v:Vl}{e:Int}(hr:rising (keysOf g.2))(h:j6 f 0 n g.2)(hw:lu t (f n) v g g' e):j6 f 0 (n+1) g'.2:=by
 have up:j6 f 0 (n+1) g.2:=fun c hc=>by obtain⟨q,h1,h2,h3⟩:=h c hc;exact⟨q,h1,by omega,h3⟩
 rcases hw with⟨_,_,rfl⟩|⟨_,_,_,rfl⟩|⟨_,_,_,h2⟩|⟨_,_,_,rfl,_⟩
 . exact up
 . exact up
 . rw[h2]
   split
   . intro c hc
     rcases(fe hr).1 hc with rfl|⟨hc,_⟩
     . exact⟨n,by omega,by omega,rfl⟩
     . exact up c hc
   . intro c hc;exact up c ((fq _ _ c).1 hc).1
 . exact up
theorem j6.cut{f:Nat->ByteArray}{i n:Nat}{l:List Cell}(h:j6 f i n l):j6 f (i+1) n (iq l (f i)):=fun c hc=>by
 obtain⟨h1,h2⟩:=(fq l _ c).1 hc
 obtain⟨q,h3,h4,h5⟩:=h c h1
 exact⟨q,by have:q≠i:=fun e=>h2 (by rw[h5,e]);omega,h4,h5⟩
theorem j6.none{f:Nat->ByteArray}{n:Nat}{l:List Cell}(h:j6 f n n l):l=[]:=by
 refine List.eq_nil_iff_forall_not_mem.2 fun c hc=> ?_
 obtain⟨q,h1,h2,_⟩:=h c hc;omega
end Go.Pl
end
section
namespace Go.Pl
open Go Go.Sx
theorem LM{x:Int}(h:x=0\/(1<=x/\x<=255)):((b8 x).toNat:Int)=x:=by
 unfold b8;rw[UInt8.toNat_ofNat'];omega
theorem LN:∀(m:List Int),(∀x∈m,x=0\/(1<=x/\x<=255))->(m.map b8).map (fun c=>(c.toNat:Int))=m:=by
 intro m
 induction m with
 |nil=>intro _;rfl
 |cons x m ih=>
  intro h
  rw[List.map_cons,List.map_cons,LM (h x (by simp)),ih fun y hy=>h y (by simp[hy])]
theorem m_(s:az):(aO s).length=(aI s.name).length+(put s.id).length+1+(s.map.length-1):=by
 unfold aO
 simp only[List.length_append,List.length_map,List.length_drop,List.length_cons,List.length_nil]
theorem AY{s:az}(fG:(aq s).length=35)(hn:s.name.size<=65536)(h1: -9223372036854775808<=s.id)(h2:s.id<=9223372036854775807)
 (hr:∀x∈s.map,x=0\/(1<=x/\x<=255))(hh:s.map.head? =some 0)(rest:List UInt8):kT (aO s++rest)=(s,((aO s).length:Int)):=by
 have zw:=mQ fG
 have hlen:=m_ s
 have e:aO s++rest=aI s.name++(put s.id++([if s.inv then 1 else 0]++((s.map.drop 1).map b8++rest))):=by
  unfold aO;simp only[List.append_assoc]
 unfold kT
 rw[show a_ (aO s++rest)=(s.name,((aI s.name).length:Int),0)from by rw[e];exact fK hn _]
 dsimp only
 rw[if_neg (by omega)]
 have e1:(((aI s.name).length:Int)).toNat=(aI s.name).length:=by omega
 have e2:(aO s++rest).drop (aI s.name).length=put s.id++([if s.inv then 1 else 0]++((s.map.drop 1).map b8++rest)):=by rw[e,List.drop_left]
 rw[e1,e2,fm h1 h2]
 dsimp only
 rw[if_neg (by rw[List.length_append];omega)]
 have e3:((aI s.name).length+((put s.id).length:Int)).toNat=(aI s.name++put s.id).length:=by rw[List.length_append];omega
 have e4:aO s++rest=(aI s.name++put s.id)++((if s.inv then 1 else 0)::((s.map.drop 1).map b8++rest)):=by rw[e];simp only[List.append_assoc,List.singleton_append]
 have e5:(aO s++rest)[(aI s.name++put s.id).length]? =some (if s.inv then(1:UInt8)else 0):=by
  rw[e4,List.getElem?_append_right (Nat.le_refl _),Nat.sub_self];rfl
 have e6:(aO s++rest).drop ((aI s.name++put s.id).length+1)=(s.map.drop 1).map b8++rest:=by
  rw[e4,List.drop_length_add_append];rfl
 rw[e3,e5,e6]
 have e7:mapOf ((s.map.drop 1).map b8++rest)=s.map:=by
  unfold mapOf
  have hl:((s.map.drop 1).map b8).length=31:=by simp[zw]
  rw[<-hl,List.take_left,LN _ fun x hx=>hr x (List.mem_of_mem_drop hx)]
  cases hm:s.map with
  |nil=>rw[hm]at zw;cases zw
  |cons x m=>rw[hm]at hh;rw[<-Option.some.inj hh];rfl
 rw[e7]
 refine Prod.ext ?_ ?_
 . cases s with
   |mk name id inv map=>
    dsimp only
    cases inv<;>rfl
 . dsimp only
   omega
theorem q_:∀(xs:List az) (A R:List UInt8),(∀s∈xs,∀rest,kT (aO s++rest)=(s,((aO s).length:Int))/\0<(aO s).length)->
 cZ (A++xs.flatMap aO++R) xs.length A.length=some xs:=by
 intro xs
 induction xs with
 |nil=>intro A R _;rfl
 |cons s xs ih=>
  intro A R h
  rw[List.length_cons,cZ]
  have e:A++(s::xs).flatMap aO++R=A++(aO s++(xs.flatMap aO++R)):=by simp only[List.flatMap_cons,List.append_assoc]
  rw[e,List.drop_left,(h s (by simp) _).1]
  have:=(h s (by simp) []).2
  rw[if_neg (by dsimp only;omega)]
  have e2:A++(aO s++(xs.flatMap aO++R))=(A++aO s)++xs.flatMap aO++R:=by simp only[List.append_assoc]
  have e3:A.length+(((aO s).length:Int)).toNat=(A++aO s).length:=by rw[List.length_append];omega
  rw[e3,e2,ih _ _ fun t ht=>h t (by simp[ht])]
theorem y7{next:Int}{all:List az}:∀(l:List az) (i:Nat) (last:Int) (a:List Int),(∀s∈l,(aq s).length=35)->eU next all i last a l=true->∀s∈l,s.map.head? =some 0:=by
 intro l
 induction l with
 |nil=>intro i last a _ _ s hs;cases hs
 |cons t l ih=>
  intro i last a fG h s hs
  rw[eU]at h
  split at h
  . cases h
  . split at h
    . cases h
    . rename_i a' GX
      rcases List.mem_cons.1 hs with rfl|hs
      . have zw:=mQ (fG s (by simp))
        cases hm:s.map with
        |nil=>rw[hm]at zw;cases zw
        |cons x m=>
         rw[hm,kM]at GX
         split at GX
         . rename_i h0;rw[h0];rfl
         . rw[if_pos (.inr (.inr (.inl rfl)))]at GX;cases GX
      . exact ih _ _ _ (fun s hs=>fG s (by simp[hs])) h s hs
theorem Gm{next:Int}{l:List az}(fG:∀s∈l,(aq s).length=35)(h:gV next l=true):∀s∈l,s.map.head? =some 0:=by
 unfold gV at h
 split at h
 . cases h
 . exact y7 _ _ _ _ fG h
theorem decode_encode{next:Int}{xs:List az}(fG:∀s∈xs,(aq s).length=35)(h:gV next xs=true):di (kS (cL next xs))=((next,xs),0):=by
 obtain⟨h0,h1,h2,h3⟩:=rX h
 have hl:=gY h fG
 have tn:=qL (l:=cL next xs) (by omega)
 unfold di
 rw[if_neg (by omega)]
 have e:kS (cL next xs)=put next++(put xs.length++(xs.flatMap aO++List.replicate (256-(cL next xs).length) 0)):=by
  unfold kS
  conv=>lhs;arg 1;unfold cL
  simp only[List.append_assoc]
 rw[show get (kS (cL next xs))=(next,((put next).length:Int),0)from by rw[e];exact fm (by omega) (by omega) _]
 dsimp only
 rw[if_neg (by omega)]
 have e1:(((put next).length:Int)).toNat=(put next).length:=by omega
 have e2:(kS (cL next xs)).drop (put next).length=put xs.length++(xs.flatMap aO++List.replicate (256-(cL next xs).length) 0):=by rw[e,List.drop_left]
 rw[e1,e2,fm (by omega) (by omega)]
 dsimp only
 rw[if_neg (by omega)]
 have e3:(((put next).length:Int)+((put xs.length).length:Int)).toNat=(put next++put xs.length).length:=by rw[List.length_append];omega
 have e4:((xs.length:Int)).toNat=xs.length:=by omega
 have e5:kS (cL next xs)=(put next++put xs.length)++xs.flatMap aO++List.replicate (256-(cL next xs).length) 0:=by rw[e];simp only[List.append_assoc]
 have hone:∀s∈xs,∀rest,kT (aO s++rest)=(s,((aO s).length:Int))/\0<(aO s).length:=by
  intro s hs rest
  obtain⟨hn,hi,hi2⟩:=h3 s hs
  have hn:=(p9 _).1 hn
  refine⟨AY (fG s hs) (by omega) (by omega) (by omega) (DH h s hs) (Gm fG h s hs) rest,?_⟩
  rw[m_];omega
 rw[e3,e4]
 rw[show cZ (kS (cL next xs)) xs.length (put next++put xs.length).length=some xs from by rw[e5];exact q_ xs _ _ hone]
 dsimp only
 unfold rY encode
 rw[if_pos h]
 rw[if_neg (by simp)]
theorem s7(l:List UInt8):di l=((0,[]),8)\/∃next s,di l=((next,s),0)/\(encode next s).1=l/\(encode next s).2=0/\(∀x∈s,(aq x).length=35):=by
 unfold di
 split
 . exact .inl rfl
 . generalize get l=p
   obtain⟨next,at_,e⟩:=p
   dsimp only
   split
   . exact .inl rfl
   . generalize get (l.drop at_.toNat)=q
     obtain⟨k,n,e2⟩:=q
     dsimp only
     split
     . exact .inl rfl
     . cases hr:cZ l k.toNat (at_+n).toNat with
       |none=>exact .inl rfl
       |some s=>
        dsimp only
        unfold rY
        by_cases hs:(encode next s).2≠0\/(encode next s).1≠l
        . rw[if_pos hs];exact .inl rfl
        . rw[if_neg hs]
          refine .inr ⟨next,s,rfl,?_,?_,(tT _ _ _ hr).2⟩
          . exact Decidable.byContradiction fun h=>hs (.inr h)
          . exact Decidable.byContradiction fun h=>hs (.inl h)
end Go.Pl
end
section
namespace Go.Pl
open Go Go.Sx
theorem IG{n:Int}{s:List az}(h:(encode n s).2=0):gV n s=true:=by
 unfold encode at h
 split at h
 . assumption
 . cases h
end Go.Pl
end
section
namespace Go.Pl
open Go Go.Sx
def four:List az:=[dz ⟨#[97]⟩ 1,dz ⟨#[98]⟩ 2,dz ⟨#[99]⟩ 3,dz ⟨#[100]⟩ 4]
def LO(s:az)(j:Nat)(x:Int):az:={s with map:=s.map.set j x}
def st:Nat->List az
 |0=>four
 |m+1=>if m<64 then(st m).set (m%4) (LO ((st m)[m%4]?.getD lC) (1+m/4) (32+m))else st m
end Go.Pl
end
section
namespace Go.Pl
open Go Go.Sx
end Go.Pl
end
section
namespace Go.Pl
open Go Go.Sx
structure Wz(n:Int)(L:List az):Prop where
 pw:L.Pairwise fun a b=>a.id<b.id/\a.name≠b.name
 each:∀s∈L,1<=s.id/\s.id<=n/\ej s.name=true/\s.map=List.replicate 32 0
def names(L:List az):List ByteArray:=L.map az.name
end Go.Pl
end
section
namespace Go.Pl
open Go Go.Sx
def xI(s:az):Prop:=(∀x,s.map.head? =some x->x=0)/\(∀a∈s.map,a=0\/(32<=a/\a<96/\s.inv=false))/\(eA s.map).Nodup
theorem vf(inv:Bool):∀(m:List Int) (no:Nat) (seen seen':List Int),kM inv no m seen=some seen'↔
 (seen'=seen++eA m/\(∀a∈m,a=0\/(32<=a/\a<96/\inv=false))/\(no=0->∀x,m.head? =some x->x=0)/\(eA m).Nodup/\∀a∈eA m,a∉seen):=by
 intro m
 induction m with
 |nil=>intro no seen seen';simp[kM,eA,eq_comm]
 |cons y m ih=>
  intro no seen seen'
  rw[kM]
  by_cases h0:y=0
  . subst h0
    have e:eA (0::m)=eA m:=by simp[eA]
    rw[if_pos rfl,ih,e]
    constructor
    . rintro⟨h1,h2,h3,h4,h5⟩
      exact⟨h1,fun a ha=>(List.mem_cons.1 ha).elim .inl (h2 a),fun _ x hx=>(Option.some.inj hx).symm,h4,h5⟩
    . rintro⟨h1,h2,h3,h4,h5⟩
      exact⟨h1,fun a ha=>h2 a (List.mem_cons_of_mem _ ha),fun h=>by omega,h4,h5⟩
  . have e:eA (y::m)=y::eA m:=by simp[eA,h0]
    rw[if_neg h0]
    by_cases hc:y<32\/96<=y\/no=0\/inv=true\/y∈seen
    . rw[if_pos hc]
      refine⟨(fun h=>by cases h),?_⟩
      rintro⟨h1,h2,h3,h4,h5⟩
      exfalso
      have VB:=(h2 y (by simp)).resolve_left h0
      rcases hc with hc|hc|hc|hc|hc
      . omega
      . omega
      . exact h0 (h3 hc y rfl)
      . rw[VB.2.2]at hc;cases hc
      . exact h5 y (by rw[e];simp) hc
    . rw[if_neg hc,ih,e]
      have hy1:32<=y:=Int.not_lt.1 fun h=>hc (.inl h)
      have VC:y<96:=Int.not_le.1 fun h=>hc (.inr (.inl h))
      have VD:no≠0:=fun h=>hc (.inr (.inr (.inl h)))
      have VE:inv=false:=by cases hi:inv with|false=>rfl|true=>exact(hc (.inr (.inr (.inr (.inl hi))))).elim
      have VF:y∉seen:=fun h=>hc (.inr (.inr (.inr (.inr h))))
      constructor
      . rintro⟨h1,h2,h3,h4,h5⟩
        refine⟨by rw[h1,List.append_assoc];rfl,fun a ha=> ?_,fun h=>absurd h VD,List.nodup_cons.2 ⟨fun h=>h5 y h (by simp),h4⟩,fun a ha=> ?_⟩
        . rcases List.mem_cons.1 ha with rfl|ha
          . exact .inr ⟨hy1,VC,VE⟩
          . exact h2 a ha
        . rcases List.mem_cons.1 ha with rfl|ha
          . exact VF
          . exact fun h=>h5 a ha (by simp[h])
      . rintro⟨h1,h2,h3,h4,h5⟩
        obtain⟨h6,h7⟩:=List.nodup_cons.1 h4
        refine⟨by rw[h1,List.append_assoc];rfl,fun a ha=>h2 a (List.mem_cons_of_mem _ ha),fun h=>by omega,h7,fun a ha hs=> ?_⟩
        rcases List.mem_append.1 hs with hs|hs
        . exact h5 a (List.mem_cons_of_mem _ ha) hs
        . rw[List.mem_singleton]at hs;subst hs;exact h6 ha
theorem y8(s:az)(l:List az):cU (s::l)=eA s.map++cU l:=List.flatMap_cons
theorem AZ(next:Int):∀(l pre:List az) (last:Int) (seen:List Int),eU next (pre++l) pre.length last seen l=true↔
 ((∀s∈l,ej s.name=true/\last<s.id/\s.id<=next/\xI s)/\(l.Pairwise fun a b=>a.id<b.id)/\(∀s∈l,∀x∈pre,x.name≠s.name)/\(l.Pairwise fun a b=>a.name≠b.name)/\(cU l).Nodup/\∀a∈cU l,a∉seen):=by
 intro l
 induction l with
 |nil=>intro pre last seen;simp[eU,cU]
 |cons s l ih=>
  intro pre last seen
  rw[eU,List.take_left,y8]
  have hf:0<=findAt (named s.name) 0 pre↔∃x∈pre,x.name=s.name:=by
   rw[jt];unfold named;simp
  have tn:pre++s::l=(pre++[s])++l:=by simp
  have To:(pre++[s]).length=pre.length+1:=by simp
  by_cases hc:ej s.name=false\/0<=findAt (named s.name) 0 pre\/s.id<=last\/next<s.id
  . rw[if_pos hc]
    refine⟨(fun h=>by cases h),?_⟩
    rintro⟨h1,h2,h3,_⟩
    exfalso
    obtain⟨a1,a2,a3,a4⟩:=h1 s (by simp)
    rcases hc with hc|hc|hc|hc
    . rw[a1]at hc;cases hc
    . obtain⟨x,hx,JW⟩:=hf.1 hc;exact h3 s (by simp) x hx JW
    . omega
    . omega
  . rw[if_neg hc]
    have b1:ej s.name=true:=by cases h:ej s.name with|true=>rfl|false=>exact(hc (.inl h)).elim
    have b2:∀x∈pre,x.name≠s.name:=fun x hx e=>hc (.inr (.inl (hf.2 ⟨x,hx,e⟩)))
    have b3:last<s.id:=Int.not_le.1 fun h=>hc (.inr (.inr (.inl h)))
    have b4:s.id<=next:=Int.not_lt.1 fun h=>hc (.inr (.inr (.inr h)))
    constructor
    . intro h
      split at h
      . cases h
      . rename_i seen' hm
        rw[tn,<-To]at h
        obtain⟨m1,m2,m3,m4,m5⟩:=(vf ..).1 hm
        subst m1
        obtain⟨h1,h2,h3,h4,h5,h6⟩:=(ih ..).1 h
        refine⟨fun t ht=> ?_,List.pairwise_cons.2 ⟨fun t ht=>(h1 t ht).2.1,h2⟩,fun t ht x hx=> ?_,List.pairwise_cons.2 ⟨fun t ht=>h3 t ht s (by simp),h4⟩,?_,fun a ha=> ?_⟩
        . rcases List.mem_cons.1 ht with rfl|ht
          . exact⟨b1,b3,b4,m3 rfl,m2,m4⟩
          . obtain⟨c1,c2,c3,c4⟩:=h1 t ht;exact⟨c1,by omega,c3,c4⟩
        . rcases List.mem_cons.1 ht with rfl|ht
          . exact b2 x hx
          . exact h3 t ht x (by simp[hx])
        . exact List.nodup_append.2 ⟨m4,h5,fun a ha b hb e=>h6 b hb (by rw[<-e];simp[ha])⟩
        . rcases List.mem_append.1 ha with ha|ha
          . exact m5 a ha
          . exact fun hs=>h6 a ha (by simp[hs])
    . rintro⟨h1,h2,h3,h4,h5,h6⟩
      obtain⟨a1,a2,a3,a4,a5,a6⟩:=h1 s (by simp)
      obtain⟨n1,n2,n3⟩:=List.nodup_append.1 h5
      obtain⟨p1,p2⟩:=List.pairwise_cons.1 h2
      obtain⟨q1,q2⟩:=List.pairwise_cons.1 h4
      rw[(vf s.inv s.map 0 seen _).2 ⟨rfl,a5,fun _=>a4,a6,fun a ha=>h6 a (by simp[ha])⟩]
      dsimp only
      rw[tn,<-To]
      refine(ih ..).2 ⟨fun t ht=> ?_,p2,fun t ht x hx=> ?_,q2,n2,fun a ha hs=> ?_⟩
      . obtain⟨c1,c2,c3,c4⟩:=h1 t (by simp[ht]);exact⟨c1,p1 t ht,c3,c4⟩
      . rcases List.mem_append.1 hx with hx|hx
        . exact h3 t (by simp[ht]) x hx
        . rw[List.mem_singleton]at hx;subst hx;exact q1 t ht
      . rcases List.mem_append.1 hs with hs|hs
        . exact h6 a (by simp[ha]) hs
        . exact n3 a hs a ha rfl
structure dN(n:Int)(xs:List az):Prop where
 n0:0<=n
 n1:n<=1099511627776
 iZ:xs.length<=4
 each:∀s∈xs,ej s.name=true/\0<s.id/\s.id<=n/\xI s
 ids:xs.Pairwise fun a b=>a.id<b.id
 names:xs.Pairwise fun a b=>a.name≠b.name
 apart:(cU xs).Nodup
theorem oC{n:Int}{xs:List az}:gV n xs=true↔dN n xs:=by
 unfold gV
 by_cases hc:n<0\/1099511627776<n\/4<xs.length
 . rw[if_pos hc]
   refine⟨(fun h=>by cases h),fun h=> ?_⟩
   have:=h.n0;have:=h.n1;have:=h.iZ
   omega
 . rw[if_neg hc]
   have key:=AZ n xs [] 0 []
   simp only[List.nil_append,List.length_nil]at key
   rw[key]
   exact⟨fun⟨h1,h2,_,h4,h5,_⟩=>⟨by omega,by omega,by omega,h1,h2,h4,h5⟩,fun h=>⟨h.each,h.ids,(fun _ _ x hx=>by cases hx),h.names,h.apart,(fun _ _ hx=>by cases hx)⟩⟩
theorem dN.sides{n:Int}{xs:List az}(h:dN n xs):∀s∈xs,s.side:=fun s hs a ha=>by
 rcases(h.each s hs).2.2.2.2.1 a ha with h|h
 . exact .inl h
 . exact .inr ⟨h.1,h.2.1⟩
structure tw(s t:az):Prop where
 name:t.name=s.name
 id:t.id=s.id
 len:t.map.length=s.map.length
theorem pe{xs:List az}{k:Nat}{s:az}(h:xs[k]? =some s):cU xs=cU (xs.take k)++(eA s.map++cU (xs.drop (k+1)))/\∀t,cU (xs.set k t)=cU (xs.take k)++(eA t.map++cU (xs.drop (k+1))):=by
 have hk:=(List.getElem?_eq_some_iff.1 h).1
 constructor
 . have:xs=xs.take k++s::xs.drop (k+1):=by rw[<-drop_cons h,List.take_append_drop]
   conv=>lhs;rw[this]
   unfold cU;rw[List.flatMap_append,List.flatMap_cons]
 . intro t
   rw[List.set_eq_take_append_cons_drop,if_pos hk]
   unfold cU;rw[List.flatMap_append,List.flatMap_cons]
theorem pn{α:Type}{R:α->α->Prop}{l:List α}{k:Nat}{s t:α}(h:l.Pairwise R)(hs:l[k]? =some s)(h1:∀x,R x s->R x t)(h2:∀x,R s x->R t x):(l.set k t).Pairwise R:=by
 have hk:=(List.getElem?_eq_some_iff.1 hs).1
 have e:l=l.take k++s::l.drop (k+1):=by rw[<-drop_cons hs,List.take_append_drop]
 rw[e,List.pairwise_append,List.pairwise_cons]at h
 rw[List.set_eq_take_append_cons_drop,if_pos hk,List.pairwise_append,List.pairwise_cons]
 exact⟨h.1,⟨fun x hx=>h2 x (h.2.1.1 x hx),h.2.1.2⟩,fun a ha b hb=>(List.mem_cons.1 hb).elim (fun e=>e▸h1 a (h.2.2 a ha s (by simp))) fun hb=>h.2.2 a ha b (by simp[hb])⟩
theorem dN.set{n:Int}{xs:List az}(h:dN n xs){k:Nat}{s t:az}(hs:xs[k]? =some s)(hl:tw s t)(hm:xI t)(hg:(cU (xs.set k t)).Nodup):dN n (xs.set k t):=by
 refine⟨h.n0,h.n1,by rw[List.length_set];exact h.iZ,fun u hu=> ?_,pn h.ids hs (fun x hx=>by rw[hl.id];exact hx) (fun x hx=>by rw[hl.id];exact hx),
  pn h.names hs (fun x hx=>by rw[hl.name];exact hx) (fun x hx=>by rw[hl.name];exact hx),hg⟩
 rcases List.mem_or_eq_of_mem_set hu with hu|rfl
 . exact h.each u hu
 . obtain⟨a1,a2,a3,_⟩:=h.each s (List.mem_of_getElem? hs)
   exact⟨by rw[hl.name];exact a1,by rw[hl.id];exact a2,by rw[hl.id];exact a3,hm⟩
theorem oD(s:az):xI (lose s)/\eA (lose s).map=[]:=by
 have h0:eA (lose s).map=[]:=by
  unfold eA lose;rw[List.filter_eq_nil_iff]
  intro a ha;rw[List.eq_of_mem_replicate ha];simp
 refine⟨⟨fun x hx=> ?_,fun a ha=> .inl (List.eq_of_mem_replicate ha),by rw[h0];exact List.nodup_nil⟩,h0⟩
 exact List.eq_of_mem_replicate (List.mem_of_mem_head? hx)
theorem dN.lose{n:Int}{xs:List az}(h:dN n xs){k:Nat}{s:az}(hs:xs[k]? =some s)(zw:s.map.length=32):dN n (xs.set k (lose s)):=by
 refine h.set hs ⟨rfl,rfl,by rw[zw];exact List.length_replicate⟩ (oD s).1 ?_
 obtain⟨e1,e2⟩:=pe hs
 have hn:=h.apart
 rw[e1]at hn
 rw[e2,(oD s).2,List.nil_append]
 obtain⟨n1,n2,n3⟩:=List.nodup_append.1 hn
 obtain⟨n4,n5,_⟩:=List.nodup_append.1 n2
 exact List.nodup_append.2 ⟨n1,n5,fun a ha b hb=>n3 a ha b (by simp[hb])⟩
theorem Gn:∀{m:List Int} {j:Nat} {a:Int},m[j]? =some 0->a≠0->(eA (m.set j a)).Perm (a::eA m):=by
 intro m
 induction m with
 |nil=>intro j a h;cases h
 |cons y m ih=>
  intro j a h ha
  cases j with
  |zero=>
   have:y=0:=by simpa using h
   subst this
   simp[eA,ha]
  |succ j=>
   have h:m[j]? =some 0:=by simpa using h
   have:=ih h ha
   rw[List.set_cons_succ]
   by_cases hy:y=0
   . have e1:eA (y::m.set j a)=eA (m.set j a):=by simp[eA,hy]
     have e2:eA (y::m)=eA m:=by simp[eA,hy]
     rw[e1,e2];exact this
   . have e1:eA (y::m.set j a)=y::eA (m.set j a):=by simp[eA,hy]
     have e2:eA (y::m)=y::eA m:=by simp[eA,hy]
     rw[e1,e2];exact(this.cons y).trans (List.Perm.swap _ _ _)
theorem dN.EA{n:Int}{xs:List az}(h:dN n xs){k:Nat}{s:az}(hs:xs[k]? =some s){j:Nat}(hj0:0<j)(hj:s.map[j]? =some 0)(hinv:s.inv=false){a:Int}(h1:32<=a)(h2:a<96)(h3:a∉cU xs):dN n (xs.set k (EA s (j:Nat) a)):=by
 obtain⟨e1,e2⟩:=pe hs
 obtain⟨_,_,_,m1,m2,m3⟩:=h.each s (List.mem_of_getElem? hs)
 have hp:=Gn (a:=a) hj (by omega)
 have em:(Go.Pl.EA s (j:Nat) a).map=s.map.set j a:=rfl
 have VG:(cU (xs.set k (Go.Pl.EA s (j:Nat) a))).Perm (a::cU xs):=by
  rw[e1,e2,em]
  exact((hp.append_right _).append_left _).trans List.perm_middle
 refine h.set hs ⟨rfl,rfl,by rw[em,List.length_set]⟩ ⟨fun x hx=> ?_,fun b hb=> ?_,?_⟩ (VG.nodup_iff.2 (List.nodup_cons.2 ⟨h3,h.apart⟩))
 . rw[em]at hx
   refine m1 x ?_
   rw[<-hx]
   cases s.map with
   |nil=>rfl
   |cons y m=>cases j with
    |zero=>omega
    |succ j=>rfl
 . rw[em]at hb
   rcases List.mem_or_eq_of_mem_set hb with hb|rfl
   . rcases m2 b hb with h|h
     . exact .inl h
     . exact .inr h
   . exact .inr ⟨h1,h2,hinv⟩
 . rw[em]
   refine hp.nodup_iff.2 (List.nodup_cons.2 ⟨fun hm=>h3 ?_,m3⟩)
   rw[e1];simp[hm]
theorem tw.refl(s:az):tw s s:=⟨rfl,rfl,rfl⟩
theorem tw.trans{s t u:az}(h:tw s t)(h':tw t u):tw s u:=⟨h'.name.trans h.name,h'.id.trans h.id,h'.len.trans h.len⟩
def qs(xs ys:List az):Prop:=xs.length=ys.length/\∀(k:Nat) (s t:az),xs[k]? =some s->ys[k]? =some t->tw s t
theorem qs.refl(xs:List az):qs xs xs:=⟨rfl,fun k s t h h'=>by rw[h]at h';cases h';exact .refl s⟩
theorem qs.trans{xs ys zs:List az}(h:qs xs ys)(h':qs ys zs):qs xs zs:=⟨h.1.trans h'.1,fun k s u hs hu=>by
 have hk:=(List.getElem?_eq_some_iff.1 hs).1
 obtain⟨t,ht⟩:=nth (l:=ys) (i:=k) (by rw[<-h.1];exact hk)
 exact(h.2 k s t hs ht).trans (h'.2 k t u ht hu)⟩
theorem qs.set{xs:List az}{k:Nat}{s t:az}(hs:xs[k]? =some s)(h:tw s t):qs xs (xs.set k t):=⟨by rw[List.length_set],fun j a b ha hb=>by
 by_cases e:k=j
 . subst e
   rw[List.getElem?_set_self (List.getElem?_eq_some_iff.1 hs).1]at hb
   rw[hs]at ha;cases ha;cases hb;exact h
 . rw[List.getElem?_set_ne e,ha]at hb;cases hb;exact .refl a⟩
theorem dN.take{n:Int}{xs:List az}(h:dN n xs)(i:Nat):dN n (xs.take i):=by
 refine⟨h.n0,h.n1,by have:=List.length_take_le i xs;have:=h.iZ;rw[List.length_take];omega,fun s hs=>h.each s (List.mem_of_mem_take hs),h.ids.sublist (List.take_sublist i xs),h.names.sublist (List.take_sublist i xs),?_⟩
 have e:cU xs=cU (xs.take i)++cU (xs.drop i):=by
  unfold cU;rw[<-List.flatMap_append,List.take_append_drop]
 have:=h.apart
 rw[e]at this
 exact(List.nodup_append.1 this).1
def Aa(c:iU):Prop:=∀no b,c no=some b->b.length=256
theorem Aa.put{c:iU}(h:Aa c)(no:Int){b:List UInt8}(hb:b.length=256):Aa (mW c no b):=fun k b' e=>by
 unfold mW at e
 split at e
 . cases e;exact hb
 . exact h k b' e
theorem A0{n:Int}{xs:List az}(fG:∀s∈xs,(aq s).length=35)(h:gV n xs=true):(encode n xs).1.length=256:=by
 unfold encode;rw[if_pos h]
 exact qL (by have:=gY h fG;omega)
theorem DJ{l:List UInt8}{n:Int}{xs:List az}(h:di l=((n,xs),0)):∀s∈xs,(aq s).length=35:=by
 rcases s7 l with h1|⟨m,s,h1,_,_,h2⟩
 . rw[h1]at h;cases h
 . rw[h1]at h;cases h;exact h2
theorem y9{l:List UInt8}{n:Int}{xs:List az}(h:di l=((n,xs),0)):dN n xs:=by
 rcases s7 l with h1|⟨m,s,h1,_,h3,h2⟩
 . rw[h1]at h;cases h
 . rw[h1]at h;cases h;exact oC.1 (IG h3)
theorem DK{n n2:Int}{xs om:List az}{nm:ByteArray}(hg:dN n xs)(h:k6 n xs nm=((n2,om),0)):dN n2 om/\om=xs++[dz nm (n+1)]/\n2=n+1:=by
 unfold k6 at h
 split at h
 . cases h
 . rename_i c1
   split at h
   . cases h
   . rename_i c2
     split at h
     . cases h
     . rename_i c3
       cases h
       have hnm:ej nm=true:=by cases e:ej nm with|true=>rfl|false=>exact(c1 e).elim
       have hn0:=hg.n0
       have h0:xI (dz nm (n+1))/\eA (dz nm (n+1)).map=[]:=
        ⟨⟨(oD (dz nm (n+1))).1.1,fun a ha=> .inl (List.eq_of_mem_replicate ha),(oD (dz nm (n+1))).1.2.2⟩,(oD (dz nm (n+1))).2⟩
       refine⟨⟨by omega,by omega,by rw[List.length_append];simp;omega,fun s hs=> ?_,?_,?_,?_⟩,rfl,rfl⟩
       . rcases List.mem_append.1 hs with hs|hs
         . obtain⟨a1,a2,a3,a4⟩:=hg.each s hs;exact⟨a1,a2,by omega,a4⟩
         . rw[List.mem_singleton]at hs;subst hs
           exact⟨hnm,by show 0<n+1;omega,Int.le_refl _,h0.1⟩
       . rw[List.pairwise_append]
         refine⟨hg.ids,by simp,fun a ha b hb=> ?_⟩
         rw[List.mem_singleton]at hb;subst hb
         have:=(hg.each a ha).2.2.1
         show a.id<n+1;omega
       . rw[List.pairwise_append]
         refine⟨hg.names,by simp,fun a ha b hb=> ?_⟩
         rw[List.mem_singleton]at hb;subst hb
         intro e
         exact c2 ((jt (named nm) xs 0).2 ⟨a,ha,by unfold named;rw[e];exact decide_eq_true rfl⟩)
       . have e:cU (xs++[dz nm (n+1)])=cU xs:=by
          unfold cU;rw[List.flatMap_append,List.flatMap_singleton,h0.2,List.append_nil]
         rw[e];exact hg.apart
end Go.Pl
end
section
namespace Go.Pl
open Go Go.Sx
structure uk(Q:ah)(n:Int)(xs:List az):Prop where
 pL:∀no,aD no->(Q no).length=256
 cat:di (Q 0)=((n,xs),0)
theorem uk.good{Q:ah}{n:Int}{xs:List az}(h:uk Q n xs):dN n xs:=y9 h.cat
theorem uk.fG{Q:ah}{n:Int}{xs:List az}(h:uk Q n xs):∀s∈xs,(aq s).length=35:=DJ h.cat
theorem uk.zw{Q:ah}{n:Int}{xs:List az}(h:uk Q n xs):∀s∈xs,s.map.length=32:=fun s hs=>mQ (h.fG s hs)
structure PN(Q:ah)(CU:List Int)(s t:az):Prop where
 like:tw s t
 same:s.inv=true->t=s
 lost:t.inv=true->s.inv=false->t=lose s
 keep:t.inv=false->∀no,0<=no->(no∉CU\/vS Q s no=false)->t.at no=s.at no
 got:t.inv=false->∀no∈CU,vS Q s no=true->t.at no≠0
theorem PN.inv{Q:ah}{CU:List Int}{s t:az}(h:PN Q CU s t)(ht:t.inv=false):s.inv=false:=by
 cases hs:s.inv with
 |false=>rfl
 |true=>rw[h.same hs,hs]at ht;cases ht
theorem PN.old{Q:ah}{CU:List Int}{s t:az}(h:PN Q CU s t)(ht:t.inv=false){no:Int}(h0:0<=no)(hs:s.at no≠0):t.at no=s.at no:=
 h.keep ht no h0 (.inr (by unfold vS;rw[if_pos (.inr hs)]))
end Go.Pl
end
section
namespace Go.Pl
open Go Go.Sx
theorem qU{n:Int}{xs:List az}(fG:∀s∈xs,(aq s).length=35)(h:dN n xs):di (encode n xs).1=((n,xs),0)/\(encode n xs).1.length=256:=by
 have hm:=oC.2 h
 refine⟨?_,A0 fG hm⟩
 unfold encode;rw[if_pos hm]
 exact decode_encode fG hm
section
variable{Q:ah}{n but:Int}{was:List az}{m:Nat}{c:iU}
def after(Q:ah)(n but:Int)(was:List az)(m:Nat)(c:iU):ah:=lay Q (LL (IB Q n was (Iz Q but (Oo c) (was.take m)) c) 96)
end
end Go.Pl
end
section
namespace Go.Pl
open Go Go.Sx
def lA(xs:List az):Prop:=∀s∈xs,s.map=List.replicate 32 0/\s.inv=false
def Bt(bad:Int)(xs:List az):Prop:=∀(i:Nat) (s:az),xs[i]? =some s->(s.inv=true↔(i:Int)=bad)
theorem lA.add{n:Int}{xs:List az}{nm:ByteArray}(hg:dN n xs)(hn:lA xs)(h:(k6 n xs nm).2=0):dN (k6 n xs nm).1.1 (k6 n xs nm).1.2/\lA (k6 n xs nm).1.2:=by
 have R2:k6 n xs nm=(((k6 n xs nm).1.1,(k6 n xs nm).1.2),0):=by rw[<-h]
 obtain⟨h1,h2,_⟩:=DK hg R2
 refine⟨h1,fun s hs=> ?_⟩
 rw[h2]at hs
 rcases List.mem_append.1 hs with hs|hs
 . exact hn s hs
 . rw[List.mem_singleton]at hs;subst hs;exact⟨rfl,rfl⟩
theorem lA.none{xs:List az}(hn:lA xs){bad:Int}(hb:bad<0\/(xs.length:Int)<=bad):Bt bad xs:=fun i s hs=>by
 have hl:=(List.getElem?_eq_some_iff.1 hs).1
 rw[(hn s (List.mem_of_getElem? hs)).2]
 constructor
 . intro h;cases h
 . intro h;omega
theorem lA.lose{n:Int}{xs:List az}(hg:dN n xs)(hn:lA xs){k:Nat}{s:az}(hs:xs[k]? =some s):dN n (xs.set k {s with inv:=true})/\Bt (k:Nat) (xs.set k {s with inv:=true}):=by
 have hm:=(hn s (List.mem_of_getElem? hs)).1
 have hl:=(List.getElem?_eq_some_iff.1 hs).1
 have e:({s with inv:=true}:az)=Go.Pl.lose s:=by unfold Go.Pl.lose;rw[<-hm]
 refine⟨by rw[e];exact hg.lose hs (by rw[hm];exact List.length_replicate),fun i t ht=> ?_⟩
 by_cases h:k=i
 . subst h
   rw[List.getElem?_set_self hl]at ht
   cases ht
   exact⟨fun _=>rfl,fun _=>rfl⟩
 . rw[List.getElem?_set_ne h]at ht
   rw[(hn t (List.mem_of_getElem? ht)).2]
   constructor
   . intro h;cases h
   . intro h;omega
def um(xs:List az)(nm:ByteArray)(w:Int):Prop:=
 (findAt (named nm) 0 xs<0/\w=6)\/∃(i:Nat) (s:az),findAt (named nm) 0 xs=(i:Nat)/\xs[i]? =some s/\w=if s.inv=true then 12 else 0
theorem um.none{xs:List az}{nm:ByteArray}{w:Int}(h:um xs nm w)(h0:findAt (named nm) 0 xs<0):w=6:=by
 rcases h with⟨_,h⟩|⟨i,_,h,_⟩
 . exact h
 . omega
theorem um.at_{xs:List az}{nm:ByteArray}{w:Int}(h:um xs nm w){i:Nat}{s:az}(h0:findAt (named nm) 0 xs=(i:Nat))(hs:xs[i]? =some s):w=if s.inv=true then 12 else 0:=by
 rcases h with⟨h,_⟩|⟨j,t,h1,h2,h3⟩
 . omega
 . obtain rfl:i=j:=by omega
   rw[hs]at h2;cases h2;exact h3
end Go.Pl
end
