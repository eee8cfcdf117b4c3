/- Part 4 of what the proofs of these rest on: All. -/
import Derived.Test.YtihpkgmfkbkffaaGreatYC
set_option linter.unusedVariables false
set_option linter.unusedSimpArgs false
set_option linter.unusedSectionVars false
section
namespace Go.Pl
open Go Go.Sx
noncomputable def en(pg:Pg)(f:Nat)(kids:List Int)(st:az):TE az:=kids.foldl (fun r b8=>r.bind (aT pg f b8)) (.ok st)
section
variable{pg:Pg}{f:Nat}{no e:Int}{st g:az}{n:Nd}{l l2:List Int}{x:Int}
theorem eu:aT pg (f+1) no st=if 32<=st.1.length\/no∈st.1 then .error 8 else(bP pg no).bind fun n=>en pg f n.kids (st.1++[no],st.2++n.cells):=rfl
theorem qc(h:32<=st.1.length\/no∈st.1):aT pg f no st= .error 8:=by
 cases f with
 |zero=>rfl
 |succ f=>rw[eu];exact if_pos h
theorem xN(h:¬(32<=st.1.length\/no∈st.1))(hr:bP pg no= .error e):aT pg (f+1) no st= .error e:=by rw[eu,if_neg h];exact a_ hr
theorem jH(h:¬(32<=st.1.length\/no∈st.1))(hr:bP pg no= .ok n):aT pg (f+1) no st=en pg f n.kids (st.1++[no],st.2++n.cells):=by rw[eu,if_neg h];exact aK hr
theorem tj:en pg f [] st= .ok st:=rfl
theorem gJ:en pg f (l++l2) st=(en pg f l st).bind (en pg f l2):=by
 unfold en
 rw[List.foldl_append]
 cases h:l.foldl (fun r b8=>r.bind (aT pg f b8)) (.ok st:TE az)with
 |ok g=>rfl
 |error e=>
  show l2.foldl _ (.error e:TE az)=(.error e:TE az)
  clear h
  induction l2 with
  |nil=>rfl
  |cons y l2 ih=>exact ih
theorem jk:en pg f [x] st=aT pg f x st:=rfl
theorem mV{i:Nat}(hi:l[i]? =some x)(h:en pg f (l.take i) st= .ok g):en pg f (l.take (i+1)) st=aT pg f x g:=by
 rw[List.take_add_one,hi,gJ,h]
 exact jk
theorem zV{i:Nat}(h:en pg f (l.take i) st= .error e):en pg f l st= .error e:=by
 rw[<-List.take_append_drop i l,gJ,h];rfl
def Jq(st g:az):Prop:=st.1.length<=g.1.length/\g.1.length<=32/\g.2.length<=256*g.1.length
theorem og:∀{f:Nat} {no:Int} {st g:az},st.2.length<=256*st.1.length->aT pg f no st= .ok g->Jq st g/\st.1.length<g.1.length:=by
 intro f
 induction f with
 |zero=>intro no st g _ h;cases h
 |succ f ih=>
  intro no st g hs h
  rw[eu]at h
  split at h
  . cases h
  . rename_i hb
    cases hr:bP pg no with
    |error e=>rw[hr]at h;cases h
    |ok n=>
     rw[hr]at h
     have hnc:=(gS hr).nd.cells
     have hk:∀(l:List Int) (s1 g:az),s1.2.length<=256*s1.1.length->s1.1.length<=32->en pg f l s1= .ok g->Jq s1 g:=by
      intro l
      induction l with
      |nil=>intro s1 g h1 h2 h;injection h with h;subst h;exact⟨Nat.le_refl _,h2,h1⟩
      |cons y l ihl=>
       intro s1 g h1 h2 h
       have h:(aT pg f y s1).bind (en pg f l)= .ok g:=by
        have:=gJ (pg:=pg) (f:=f) (l:=[y]) (l2:=l) (st:=s1)
        rw[jk]at this;rw[<-this];exact h
       cases ht:aT pg f y s1 with
       |error e=>rw[ht]at h;cases h
       |ok g1=>
        rw[ht]at h
        obtain⟨⟨a,b,c⟩,_⟩:=ih h1 ht
        obtain⟨a2,b2,c2⟩:=ihl g1 g c b h
        exact⟨by omega,b2,c2⟩
     have hb:¬32<=st.1.length:=fun e=>hb (.inl e)
     obtain⟨a,b,c⟩:=hk n.kids _ g (by simp only[List.length_append,List.length_singleton];omega) (by simp only[List.length_append,List.length_singleton];omega) h
     simp only[List.length_append,List.length_singleton]at a
     exact⟨⟨by omega,b,c⟩,by omega⟩
theorem zW{st g:az}(h1:st.2.length<=256*st.1.length)(h2:st.1.length<=32)(h:en pg f l st= .ok g):Jq st g:=by
 induction l generalizing st with
 |nil=>injection h with h;subst h;exact⟨Nat.le_refl _,h2,h1⟩
 |cons y l ih=>
  have h:(aT pg f y st).bind (en pg f l)= .ok g:=by
   have:=gJ (pg:=pg) (f:=f) (l:=[y]) (l2:=l) (st:=st)
   rw[jk]at this;rw[<-this];exact h
  cases ht:aT pg f y st with
  |error e=>rw[ht]at h;cases h
  |ok g1=>
   rw[ht]at h
   obtain⟨⟨a,b,c⟩,_⟩:=og h1 ht
   obtain⟨a2,b2,c2⟩:=ih c b h
   exact⟨by omega,b2,c2⟩
theorem rA(h:b7 pg= .error e):eK pg= .error e:=by unfold eK;exact a_ h
theorem lR(h:b7 pg= .ok no)(h0:no=0):eK pg= .ok ([],[]):=by unfold eK;refine(aK h).trans ?_;exact if_neg (fun h=>h h0)
theorem nK(h:b7 pg= .ok no)(h0:no≠0):eK pg=aT pg 32 no ([],[]):=by unfold eK;refine(aK h).trans ?_;exact if_pos h0
theorem nT{g:az}(h:eK pg= .ok g):g.1.length<=32/\g.2.length<=8192:=by
 cases hr:b7 pg with
 |error e=>rw[rA hr]at h;cases h
 |ok no=>
  by_cases h0:no=0
  . rw[lR hr h0]at h;injection h with h;subst h;exact⟨by simp,by simp⟩
  . rw[nK hr h0]at h
    obtain⟨⟨_,h2,h3⟩,_⟩:=og (by simp) h
    exact⟨h2,by omega⟩
theorem sD.kP{n:Nd}(h:sD n){x:Int}(hx:x∈n.kids):av x:=by
 cases hl:n.leaf with
 |true=>rw[(h.leaf hl).2]at hx;cases hx
 |false=>exact(h.ways hl).2 x hx
end
end Go.Pl
end
section
namespace Go.Pl
open Go Go.Sx
def Deep(pg:Pg):Nat->Int->Prop
 |0,_=>False
 |f+1,no=>∀n,bP pg no= .ok n->∀k∈n.kids,Deep pg f k
theorem E9{pg:Pg}{f:Nat}{l:List Int}{st g:az}(h:en pg f l st= .ok g){x:Int}(hx:x∈l):∃s1 g1,aT pg f x s1= .ok g1:=by
 induction l generalizing st with
 |nil=>cases hx
 |cons y l ih=>
  have h:(aT pg f y st).bind (en pg f l)= .ok g:=by
   have:=gJ (pg:=pg) (f:=f) (l:=[y]) (l2:=l) (st:=st)
   rw[jk]at this;rw[<-this];exact h
  cases ht:aT pg f y st with
  |error e=>rw[ht]at h;cases h
  |ok g1=>
   rw[ht]at h
   rcases List.mem_cons.1 hx with rfl|hx
   . exact⟨_,_,ht⟩
   . exact ih h hx
theorem GL{pg:Pg}:∀{f:Nat} {no:Int} {st g:az},aT pg f no st= .ok g->Deep pg f no:=by
 intro f
 induction f with
 |zero=>intro no st g h;cases h
 |succ f ih=>
  intro no st g h n hn k hk
  rw[eu]at h
  split at h
  . cases h
  . rw[hn]at h
    obtain⟨s1,g1,h1⟩:=E9 h hk
    exact ih h1
noncomputable def Az(pg:Pg)(f:Nat)(n:Nd)(lo hi:ByteArray)(r:TE Int)(i:Nat):TE Int:=
 r.bind fun deep=>(dB pg f (n.kids.getD i 0) (bX n.keys lo i) (bF n.keys hi i) false).bind fun d=>if deep<0\/d=deep then .ok d else .error 8
noncomputable def ie(pg:Pg)(f:Nat)(n:Nd)(lo hi:ByteArray)(m:Nat):TE Int:=(List.range m).foldl (Az pg f n lo hi) (.ok (-1))
section
variable{pg:Pg}{f:Nat}{no e:Int}{n:Nd}{lo hi:ByteArray}{top:Bool}
theorem gi:dB pg (f+1) no lo hi top=(bP pg no).bind fun n=>
 if n.leaf=true then if top=true\/0<n.cells.length then if n.cells.all fun c=>bu c.key lo hi then .ok 0 else .error 8 else .error 8
 else(ie pg f n lo hi n.kids.length).bind fun deep=> .ok (deep+1):=rfl
theorem zX(h:bP pg no= .error e):dB pg (f+1) no lo hi top= .error e:=by rw[gi];exact a_ h
theorem xO(h:bP pg no= .ok n)(hl:n.leaf=true)(h2:¬(top=true\/0<n.cells.length)):dB pg (f+1) no lo hi top= .error 8:=by
 rw[gi];refine(aK h).trans ?_;exact(if_pos hl).trans (if_neg h2)
theorem r7(h:bP pg no= .ok n)(hl:n.leaf=true)(h2:top=true\/0<n.cells.length){c:Cell}(hc:c∈n.cells)(hk:bu c.key lo hi=false):dB pg (f+1) no lo hi top= .error 8:=by
 rw[gi];refine(aK h).trans ?_
 refine(if_pos hl).trans ((if_pos h2).trans (if_neg fun ha=> ?_))
 have:=List.all_eq_true.1 ha c hc
 rw[hk]at this;cases this
theorem kX(h:bP pg no= .ok n)(hl:n.leaf=true)(h2:top=true\/0<n.cells.length)(ha:∀c∈n.cells,bu c.key lo hi=true):dB pg (f+1) no lo hi top= .ok 0:=by
 rw[gi];refine(aK h).trans ?_
 exact(if_pos hl).trans ((if_pos h2).trans (if_pos (List.all_eq_true.2 ha)))
theorem cS(h:bP pg no= .ok n)(hl:n.leaf=false):dB pg (f+1) no lo hi top=(ie pg f n lo hi n.kids.length).bind fun deep=> .ok (deep+1):=by
 have hl:¬n.leaf=true:=by rw[hl];simp
 rw[gi];refine(aK h).trans ?_;exact if_neg hl
theorem zY:ie pg f n lo hi 0= .ok (-1):=rfl
theorem mW(m:Nat):ie pg f n lo hi (m+1)=Az pg f n lo hi (ie pg f n lo hi m) m:=by unfold ie;rw[List.range_succ,List.foldl_append];rfl
theorem ec{m M:Nat}(hm:m<=M)(h:ie pg f n lo hi m= .error e):ie pg f n lo hi M= .error e:=by
 induction M with
 |zero=>obtain rfl:m=0:=by omega
        exact h
 |succ M ih=>
  by_cases hM:m=M+1
  . subst hM;exact h
  . rw[mW,ih (by omega)];rfl
variable{m:Nat}{d d2:Int}{Oj hi2:ByteArray}
theorem lS(h:ie pg f n lo hi m= .ok d)(hk:n.kids[m]? =some no)(h1:bX n.keys lo m=Oj)(h2:bF n.keys hi m=hi2)(hc:dB pg f no Oj hi2 false= .error e):ie pg f n lo hi (m+1)= .error e:=by
 rw[mW,h]
 unfold Az
 rw[List.getD_eq_getElem?_getD,hk,h1,h2]
 exact(aK rfl).trans (a_ hc)
theorem gW(h:ie pg f n lo hi m= .ok d)(hk:n.kids[m]? =some no)(h1:bX n.keys lo m=Oj)(h2:bF n.keys hi m=hi2)(hc:dB pg f no Oj hi2 false= .ok d2):ie pg f n lo hi (m+1)=if d<0\/d2=d then .ok d2 else .error 8:=by
 rw[mW,h]
 unfold Az
 rw[List.getD_eq_getElem?_getD,hk,h1,h2]
 exact(aK rfl).trans (aK hc)
theorem uO(h:0<m){k:ByteArray}(hk:n.keys[m-1]? =some k):bX n.keys lo m=k:=by unfold bX;rw[if_pos h,List.getD_eq_getElem?_getD,hk];rfl
theorem Bd(h:¬0<m):bX n.keys lo m=lo:=by unfold bX;rw[if_neg h]
theorem nU(h:m<n.keys.length){k:ByteArray}(hk:n.keys[m]? =some k):bF n.keys hi m=k:=by unfold bF;rw[if_pos h,List.getD_eq_getElem?_getD,hk];rfl
theorem rB(h:¬m<n.keys.length):bF n.keys hi m=hi:=by unfold bF;rw[if_neg h]
end
end Go.Pl
end
section
namespace Go.Pl
open Go Go.Sx
def zh(bs:List UInt8)(g:az)(m:Nat):Prop:=∀no:Nat,no<m->hasB bs (no:Nat)=decide ((no:Int)∈g.1)
section
variable{pg:Pg}{e d:Int}{g:az}
noncomputable def gQ(pg:Pg)(g:az):TE Int:=if g.1=[]then .ok 0 else dB pg 32 (g.1.getD 0 0) ⟨#[]⟩ ⟨#[]⟩ true
theorem gj:dD pg=(eK pg).bind fun g=>(gQ pg g).bind fun _=>
 if(aX (pg 1)).1≠0 then .error (aX (pg 1)).1
 else if(List.range 32).all fun no=>hasB (aX (pg 1)).2 (no:Nat)==decide ((no:Int)∈g.1)then .ok ()else .error 8:=rfl
theorem u_(h:eK pg= .error e):dD pg= .error e:=by rw[gj];exact a_ h
theorem sB(h:eK pg= .ok g)(h2:gQ pg g= .error e):dD pg= .error e:=by rw[gj];exact(aK h).trans (a_ h2)
theorem sO(h:eK pg= .ok g)(h2:gQ pg g= .ok d)(h3:(aX (pg 1)).1=e)(he:e≠0):dD pg= .error e:=by
 rw[gj];refine(aK h).trans ((aK h2).trans ((if_pos (by rw[h3];exact he)).trans (by rw[h3])))
theorem sP(h:eK pg= .ok g)(h2:gQ pg g= .ok d)(h3:(aX (pg 1)).1=0){i:Nat}(hi:i<32)(hm:¬hasB (aX (pg 1)).2 (i:Nat)=decide ((i:Int)∈g.1)):dD pg= .error 8:=by
 rw[gj];refine(aK h).trans ((aK h2).trans ((if_neg (by rw[h3];simp)).trans (if_neg fun ha=>hm ?_)))
 exact beq_iff_eq.1 (List.all_eq_true.1 ha i (List.mem_range.2 hi))
theorem qd(h:eK pg= .ok g)(h2:gQ pg g= .ok d)(h3:(aX (pg 1)).1=0)(hm:zh (aX (pg 1)).2 g 32):dD pg= .ok ():=by
 rw[gj];refine(aK h).trans ((aK h2).trans ((if_neg (by rw[h3];simp)).trans (if_pos ?_)))
 exact List.all_eq_true.2 fun i hi=>beq_iff_eq.2 (hm i (List.mem_range.1 hi))
theorem r9(h:g.1=[]):gQ pg g= .ok 0:=by unfold gQ;rw[if_pos h]
theorem kY(h:g.1≠[]):gQ pg g=dB pg 32 (g.1.getD 0 0) ⟨#[]⟩ ⟨#[]⟩ true:=by unfold gQ;rw[if_neg h]
theorem Cd{f:Nat}(ih:∀{no:Int} {st g:az},aT pg f no st= .ok g->∃l,g.1=st.1++no::l){l:List Int}{st g:az}(h:en pg f l st= .ok g):∃l2,g.1=st.1++l2:=by
 induction l generalizing st with
 |nil=>injection h with h;subst h;exact⟨[],by simp⟩
 |cons y l ihl=>
  have h:(aT pg f y st).bind (en pg f l)= .ok g:=by
   have:=gJ (pg:=pg) (f:=f) (l:=[y]) (l2:=l) (st:=st)
   rw[jk]at this;rw[<-this];exact h
  cases ht:aT pg f y st with
  |error e=>rw[ht]at h;cases h
  |ok g1=>
   rw[ht]at h
   obtain⟨l1,h1⟩:=ih ht
   obtain⟨l2,h2⟩:=ihl h
   exact⟨y::l1++l2,by rw[h2,h1,List.append_assoc]⟩
theorem xP{f:Nat}:∀{no:Int} {st g:az},aT pg f no st= .ok g->∃l,g.1=st.1++no::l:=by
 induction f with
 |zero=>intro no st g h;cases h
 |succ f ih=>
  intro no st g h
  rw[eu]at h
  split at h
  . cases h
  . cases hr:bP pg no with
    |error e=>rw[hr]at h;cases h
    |ok n=>
     rw[hr]at h
     obtain⟨l,hl⟩:=Cd ih h
     exact⟨l,by rw[hl];simp⟩
theorem Ce(h:eK pg= .ok g):(g.1=[]/\g.2=[])\/∃no l,g.1=no::l/\av no/\Deep pg 32 no:=by
 cases hr:b7 pg with
 |error e=>rw[rA hr]at h;cases h
 |ok no=>
  by_cases h0:no=0
  . rw[lR hr h0]at h;injection h with h;subst h;exact .inl ⟨rfl,rfl⟩
  . rw[nK hr h0]at h
    obtain⟨l,hl⟩:=xP h
    exact .inr ⟨no,l,hl,(jj hr).resolve_left h0,GL h⟩
end
end Go.Pl
end
section
namespace Go.Pl
open Go Go.Sx
theorem cF{k lo hi:ByteArray}:bu k lo hi=true↔bY k lo=false/\(hi=⟨#[]⟩\/bY k hi=true):=by
 unfold bu
 simp only[Bool.and_eq_true,Bool.not_eq_true',Bool.or_eq_true,decide_eq_true_eq]
theorem zZ{a b:List ByteArray}(ha:rising a)(hb:rising b)(h:∀x∈a,∀y∈b,bY x y=true):rising (a++b):=List.pairwise_append.2 ⟨ha,hb,h⟩
section
variable{pg:Pg}
def Ordered(lo hi:ByteArray)(cs:List Cell):Prop:=rising (keysOf cs)/\∀c∈cs,bu c.key lo hi=true
theorem Ordered.join{lo K hi:ByteArray}{a b:List Cell}(hK:K≠⟨#[]⟩)(ha:Ordered lo K a)(hb:Ordered K hi b)(ha0:a≠[])(hb0:b≠[]):Ordered lo hi (a++b):=by
 have hlt:∀x∈a,∀y∈b,bY x.key y.key=true:=fun x hx y hy=>by
  have h1:=(cF.1 (ha.2 x hx)).2.resolve_left hK
  have h2:=(cF.1 (hb.2 y hy)).1
  exact D_ h1 h2
 obtain⟨x0,hx0⟩:=List.exists_mem_of_ne_nil a ha0
 obtain⟨y0,hy0⟩:=List.exists_mem_of_ne_nil b hb0
 refine⟨?_,fun c hc=> ?_⟩
 . unfold keysOf;rw[List.map_append]
   refine zZ ha.1 hb.1 fun x hx y hy=> ?_
   obtain⟨c,hc,rfl⟩:=List.mem_map.1 hx
   obtain⟨d,hd,rfl⟩:=List.mem_map.1 hy
   exact hlt c hc d hd
 . rcases List.mem_append.1 hc with hc|hc
   . refine cF.2 ⟨(cF.1 (ha.2 c hc)).1,?_⟩
     rcases(cF.1 (hb.2 y0 hy0)).2 with h|h
     . exact .inl h
     . exact .inr (bB (hlt c hc y0 hy0) h)
   . refine cF.2 ⟨?_,(cF.1 (hb.2 c hc)).2⟩
     have h1:=(cF.1 (ha.2 x0 hx0)).1
     have h2:=hlt x0 hx0 c hc
     cases h3:bY c.key lo with
     |false=>rfl
     |true=>rw[bB h2 h3]at h1;cases h1
end
end Go.Pl
end
section
namespace Go.Pl
open Go Go.Sx
theorem kQ{bs:List UInt8}{m:Int}(h:hasB bs m=true):av m:=by
 unfold hasB at h;rw[Bool.and_eq_true]at h;exact of_decide_eq_true h.1
theorem jz{m:Int}(h:av m):∃n:Nat,m=(n:Nat)/\2<=n/\n<32:=by
 unfold av at h;exact⟨m.toNat,by omega,by omega,by omega⟩
theorem dj{Q:ah}{no:Int}{b:List UInt8}:eW Q no b no=b:=by unfold eW;exact if_pos rfl
theorem bQ{Q:ah}{no m:Int}{b:List UInt8}(h:m≠no):eW Q no b m=Q m:=by unfold eW;exact if_neg h
structure iX(Q:ah)(r:Int)(u:Int->Prop):Prop where
 len:(Q 1).length=256
 root:rootOf (Q 1)=r
 bit:∀m,hasB (Q 1) m=true↔u m
theorem iX.may{Q:ah}{r:Int}{u:Int->Prop}(h:iX Q r u){m:Int}(hm:u m):av m:=kQ ((h.bit m).2 hm)
theorem iX.other{Q Q':ah}{r:Int}{u:Int->Prop}(h:iX Q r u)(e:Q' 1=Q 1):iX Q' r u:=⟨by rw[e];exact h.len,by rw[e];exact h.root,by rw[e];exact h.bit⟩
theorem iX.iff{Q:ah}{r:Int}{u u':Int->Prop}(h:iX Q r u)(e:∀m,u m↔u' m):iX Q r u':=⟨h.len,h.root,fun m=>(h.bit m).trans (e m)⟩
theorem w5{bs:List UInt8}(hl:bs.length=256){n:Nat}(hn:n<32){c:UInt8}:rootOf (bs.set (n/8) c)=rootOf bs:=by
 unfold rootOf;rw[kO (by omega),if_neg (by omega)]
theorem iX.take{Q:ah}{r:Int}{u:Int->Prop}(h:iX Q r u):
 (∃n Q',fA Q= .ok (n,Q')/\av n/\¬u n/\iX Q' r (fun m=>m=n\/u m)/\(∀m,m≠1->m≠n->Q' m=Q m))\/(fA Q= .error 4/\∀m,av m->u m):=by
 cases ht:kq (Q 1)with
 |none=>
  refine .inr ⟨by unfold fA;rw[ht],fun m hm=> ?_⟩
  obtain⟨n,rfl,h1,h2⟩:=jz hm
  unfold kq at ht
  rw[List.find?_eq_none]at ht
  have:=ht n (List.mem_range'_1.2 ⟨h1,by omega⟩)
  exact(h.bit _).1 (by simpa using this)
 |some n=>
  obtain⟨h1,h2,h3⟩:=wR ht
  refine .inl ⟨(n:Nat),_,by unfold fA;rw[ht],by unfold av;omega,fun hu=> ?_,⟨?_,?_,fun m=> ?_⟩,fun m oz hmn=> ?_⟩
  . have:=(h.bit _).2 hu;rw[h3]at this;cases this
  . rw[bQ (by omega),dj,wP];exact h.len
  . rw[bQ (by omega),dj];unfold vt;rw[w5 h.len h2];exact h.root
  . rw[bQ (by omega),dj]
    by_cases hm:av m
    . obtain⟨k,rfl,h4,h5⟩:=jz hm
      rw[ET h.len h2,Bool.or_eq_true,Bool.and_eq_true,decide_eq_true_eq,decide_eq_true_eq]
      constructor
      . rintro(⟨_,e⟩|e)
        . exact .inl (by omega)
        . exact .inr ((h.bit _).1 e)
      . rintro(e|e)
        . exact .inl ⟨hm,by omega⟩
        . exact .inr ((h.bit _).2 e)
    . constructor
      . intro e;exact absurd (kQ e) hm
      . rintro(e|e)
        . exact absurd (by rw[e];unfold av;omega) hm
        . exact absurd (h.may e) hm
  . rw[bQ hmn,bQ oz]
theorem iX.free{Q:ah}{r:Int}{u:Int->Prop}(h:iX Q r u){no:Int}(hu:u no):
 ∃Q',mh Q no= .ok Q'/\iX Q' r (fun m=>u m/\m≠no)/\(∀m,m≠1->Q' m=Q m):=by
 obtain⟨n,rfl,h1,h2⟩:=jz (h.may hu)
 refine⟨_,by unfold mh;rw[if_pos ((h.bit _).2 hu)],⟨?_,?_,fun m=> ?_⟩,fun m oz=>bQ oz⟩
 . rw[dj,wQ];exact h.len
 . rw[dj];unfold vu;rw[Int.toNat_natCast,w5 h.len h2];exact h.root
 . rw[dj]
   by_cases hm:av m
   . obtain⟨k,rfl,h4,h5⟩:=jz hm
     rw[Int.toNat_natCast,EU h.len h2,Bool.and_eq_true,Bool.not_eq_true',decide_eq_false_iff_not,h.bit]
     constructor
     . rintro⟨a,b⟩;exact⟨b,by omega⟩
     . rintro⟨a,b⟩;exact⟨by omega,a⟩
   . constructor
     . intro e;exact absurd (kQ e) hm
     . rintro⟨e,_⟩;exact absurd (h.may e) hm
theorem iX.set{Q:ah}{r:Int}{u:Int->Prop}(h:iX Q r u){no:Int}(h1:0<=no)(h2:no<256):iX (cg Q no) no u/\∀m,m≠1->cg Q no m=Q m:=by
 have hl:=h.len
 refine⟨⟨?_,?_,fun m=> ?_⟩,fun m hm=>bQ hm⟩
 . unfold cg;rw[dj,List.length_set];exact hl
 . unfold cg rootOf;rw[dj,kO (by omega),if_pos rfl,UInt8.toNat_ofNat'];omega
 . rw[<-h.bit m]
   by_cases hm:av m
   . obtain⟨k,rfl,h4,h5⟩:=jz hm
     unfold cg hasB;rw[dj,Int.toNat_natCast,kO (by omega),if_neg (by omega)]
   . constructor<;>intro e<;>exact absurd (kQ e) hm
theorem iX.b7{Q:ah}{r:Int}{u:Int->Prop}(h:iX Q r u)(hr:r=0\/av r):b7 (aI Q)= .ok r:=by
 have h1:aI Q 1=(0,Q 1):=by unfold aI;rw[if_pos (by decide)]
 have hw:aX (aI Q 1)=(0,Q 1):=by rw[h1];unfold aX;rw[if_neg (by simp),if_neg (by dsimp only;rw[h.len];simp)]
 have hx:iR (aI Q 1)=(r,0):=by
  unfold iR;rw[hw];dsimp only
  rw[if_neg (by simp),h.root,if_neg]
  rintro⟨a,b⟩;exact hr.elim a b
 unfold Go.Pl.b7 mg
 rw[hx,h1,if_pos rfl];rfl
theorem dL{Q:ah}{no:Int}{n:Nd}(hn:av no)(h:bz (Q no) n):bP (aI Q) no= .ok n:=by
 unfold bP mg
 have hm:=jc hn
 have:aI Q no=(0,Q no):=by unfold aI;rw[if_pos hm]
 rw[this,if_pos rfl]
 exact Ba h
theorem dY{Q:ah}{no:Int}{n:Nd}(h:kC n):bz (eW Q no (bS n).1 no) n:=by rw[dj];exact⟨h,rfl⟩
def aN(Q:ah):Nat->Int->ByteArray->ByteArray->az->Prop
 |0,no,lo,hi,g=>∃n,bz (Q no) n/\av no/\n.leaf=true/\g=([no],n.cells)/\∀c∈n.cells,bu c.key lo hi=true
 |d+1,no,lo,hi,g=>∃(n:Nd) (ps:List az),bz (Q no) n/\av no/\n.leaf=false/\ps.length=n.kids.length/\
   (∀(i:Nat) (b8:Int) (p:az),n.kids[i]? =some b8->ps[i]? =some p->aN Q d b8 (bX n.keys lo i) (bF n.keys hi i) p/\p.2≠[])/\
   g=(no::ps.flatMap Prod.fst,ps.flatMap Prod.snd)
theorem aN.frame{Q Q':ah}:∀{d:Nat} {no:Int} {lo hi:ByteArray} {g:az},aN Q d no lo hi g->(∀m∈g.1,Q' m=Q m)->aN Q' d no lo hi g:=by
 intro d
 induction d with
 |zero=>
  rintro no lo hi g ⟨n,h1,h2,h3,rfl,h5⟩ he
  exact⟨n,by rw[he no (by simp)];exact h1,h2,h3,rfl,h5⟩
 |succ d ih=>
  rintro no lo hi g ⟨n,ps,h1,h2,h3,h4,h5,rfl⟩ he
  refine⟨n,ps,by rw[he no (by simp)];exact h1,h2,h3,h4,fun i b8 p hk hp=> ?_,rfl⟩
  obtain⟨h6,h7⟩:=h5 i b8 p hk hp
  exact⟨ih h6 fun m hm=>he m (List.mem_cons_of_mem _ (List.mem_flatMap.2 ⟨p,List.mem_of_getElem? hp,hm⟩)),h7⟩
theorem aN.may{Q:ah}{d:Nat}{no:Int}{lo hi:ByteArray}{g:az}(h:aN Q d no lo hi g):av no:=by
 cases d with
 |zero=>obtain⟨n,_,h,_⟩:=h;exact h
 |succ d=>obtain⟨n,ps,_,h,_⟩:=h;exact h
theorem aN.head{Q:ah}{d:Nat}{no:Int}{lo hi:ByteArray}{g:az}(h:aN Q d no lo hi g):∃l,g.1=no::l:=by
 cases d with
 |zero=>obtain⟨n,_,_,_,rfl,_⟩:=h;exact⟨[],rfl⟩
 |succ d=>obtain⟨n,ps,_,_,_,_,_,rfl⟩:=h;exact⟨_,rfl⟩
theorem aN.through{Q:ah}:∀{d:Nat} {no:Int} {lo hi:ByteArray} {g:az},aN Q d no lo hi g->∀{f:Nat} {st:az},d<f->(st.1++g.1).Nodup->(st.1++g.1).length<=32->aT (aI Q) f no st= .ok (st.1++g.1,st.2++g.2):=by
 intro d
 induction d with
 |zero=>
  rintro no lo hi g ⟨n,h1,h2,h3,rfl,h5⟩ f st hf hn hl
  obtain⟨f,rfl⟩:∃f',f=f'+1:=⟨f-1,by omega⟩
  have mw:¬(32<=st.1.length\/no∈st.1):=by
   rintro(h|h)
   . simp only[List.length_append,List.length_singleton]at hl;omega
   . exact(List.nodup_append.1 hn).2.2 no h no (by simp) rfl
  rw[jH mw (dL h2 h1),(h1.1.nd.leaf h3).2];rfl
 |succ d ih=>
  rintro no lo hi g ⟨n,ps,h1,h2,h3,h4,h5,rfl⟩ f st hf hn hl
  obtain⟨f,rfl⟩:∃f',f=f'+1:=⟨f-1,by omega⟩
  have mw:¬(32<=st.1.length\/no∈st.1):=by
   rintro(h|h)
   . simp only[List.length_append,List.length_cons]at hl;omega
   . exact(List.nodup_append.1 hn).2.2 no h no (by simp) rfl
  have hc0:n.cells=[]:=((aS h3).1 h1.1.nd.may).1
  rw[jH mw (dL h2 h1),hc0,List.append_nil]
  have key:∀m,m<=n.kids.length->en (aI Q) f (n.kids.take m) (st.1++[no],st.2)= .ok (st.1++(no::(ps.take m).flatMap Prod.fst),st.2++(ps.take m).flatMap Prod.snd):=by
   intro m
   induction m with
   |zero=>intro _;rw[List.take_zero,List.take_zero];simp[tj]
   |succ m LM=>
    intro hm
    obtain⟨b8,hk⟩:∃b8,n.kids[m]? =some b8:=⟨_,List.getElem?_eq_getElem (by omega)⟩
    obtain⟨p,hp⟩:∃p,ps[m]? =some p:=⟨_,List.getElem?_eq_getElem (by omega)⟩
    rw[mV hk (LM (by omega))]
    have hsub:ps=ps.take m++p::ps.drop (m+1):=by
     have hlt:m<ps.length:=by omega
     have e:=List.take_append_drop m ps
     rw[List.drop_eq_getElem_cons hlt]at e
     rw[(List.getElem?_eq_some_iff.1 hp).2]at e
     exact e.symm
    have Mo:(st.1++(no::(ps.take m).flatMap Prod.fst)++p.1).Nodup/\(st.1++(no::(ps.take m).flatMap Prod.fst)++p.1).length<=32:=by
     rw[hsub]at hn hl
     simp only[List.flatMap_append,List.flatMap_cons]at hn hl
     have e:st.1++no::((ps.take m).flatMap Prod.fst++(p.1++(ps.drop (m+1)).flatMap Prod.fst))=(st.1++(no::(ps.take m).flatMap Prod.fst)++p.1)++(ps.drop (m+1)).flatMap Prod.fst:=by simp
     rw[e]at hn hl
     exact⟨(List.nodup_append.1 hn).1,by rw[List.length_append]at hl;omega⟩
    rw[ih (h5 m b8 p hk hp).1 (f:=f) (by omega) Mo.1 Mo.2]
    rw[List.take_add_one,hp]
    simp
  have:=key n.kids.length (Nat.le_refl _)
  rw[List.take_of_length_le (Nat.le_refl _),<-h4,List.take_of_length_le (Nat.le_refl _)]at this
  exact this
end Go.Pl
end
section
namespace Go.Pl
open Go Go.Sx
theorem aN.check{Q:ah}:∀{d:Nat} {no:Int} {lo hi:ByteArray} {g:az},aN Q d no lo hi g->∀{f:Nat} {top:Bool},d<f->(top=true\/g.2≠[])->dB (aI Q) f no lo hi top= .ok (d:Int):=by
 intro d
 induction d with
 |zero=>
  rintro no lo hi g ⟨n,h1,h2,h3,rfl,h5⟩ f top hf ht
  obtain⟨f,rfl⟩:∃f',f=f'+1:=⟨f-1,by omega⟩
  exact kX (dL h2 h1) h3 (ht.imp id fun h=>List.length_pos_iff.2 h) h5
 |succ d ih=>
  rintro no lo hi g ⟨n,ps,h1,h2,h3,h4,h5,rfl⟩ f top hf ht
  obtain⟨f,rfl⟩:∃f',f=f'+1:=⟨f-1,by omega⟩
  rw[cS (dL h2 h1) h3]
  have ng:=(h1.1.nd.ways h3).1
  have key:∀m,m<=n.kids.length->ie (aI Q) f n lo hi m= .ok (if m=0 then -1 else(d:Int)):=by
   intro m
   induction m with
   |zero=>intro _;rfl
   |succ m LM=>
    intro hm
    obtain⟨b8,hk⟩:∃b8,n.kids[m]? =some b8:=⟨_,List.getElem?_eq_getElem (by omega)⟩
    obtain⟨p,hp⟩:∃p,ps[m]? =some p:=⟨_,List.getElem?_eq_getElem (by omega)⟩
    obtain⟨h6,h7⟩:=h5 m b8 p hk hp
    rw[gW (LM (by omega)) hk rfl rfl (ih h6 (by omega) (.inr h7)),if_pos,if_neg (by omega)]
    by_cases h0:m=0
    . rw[if_pos h0];exact .inl (by omega)
    . rw[if_neg h0];exact .inr rfl
  have:=key n.kids.length (Nat.le_refl _)
  rw[if_neg (by omega)]at this
  exact aK this
theorem sQ{n:Nd}(hmk:∀k∈n.keys,bp k=true)(ng:n.keys.length+1=n.kids.length){lo hi:ByteArray}{ps:List az}(h4:ps.length=n.kids.length)
 (h5:∀(i:Nat) (p:az),ps[i]? =some p->Ordered (bX n.keys lo i) (bF n.keys hi i) p.2/\p.2≠[]):Ordered lo hi (ps.flatMap Prod.snd)/\ps.flatMap Prod.snd≠[]:=by
 have key:∀m,0<m->m<=ps.length->Ordered lo (bF n.keys hi (m-1)) ((ps.take m).flatMap Prod.snd)/\(ps.take m).flatMap Prod.snd≠[]:=by
  intro m
  induction m with
  |zero=>intro h0;omega
  |succ m LM=>
   intro _ hm
   obtain⟨p,hp⟩:∃p,ps[m]? =some p:=⟨_,List.getElem?_eq_getElem (by omega)⟩
   obtain⟨o2,n2⟩:=h5 m p hp
   rw[Nat.add_sub_cancel,List.take_add_one,hp,Option.toList_some,List.flatMap_append]
   simp only[List.flatMap_cons,List.flatMap_nil,List.append_nil]
   by_cases h0:m=0
   . subst h0
     rw[Bd (by omega)]at o2
     simp only[List.take_zero,List.flatMap_nil,List.nil_append]
     exact⟨o2,n2⟩
   . obtain⟨o1,n1⟩:=LM (by omega) (by omega)
     obtain⟨K,hK⟩:∃K,n.keys[m-1]? =some K:=⟨_,List.getElem?_eq_getElem (by omega)⟩
     rw[uO (by omega) hK]at o2
     rw[nU (by omega) hK]at o1
     exact⟨o1.join (iH (hmk K (List.mem_of_getElem? hK))).2 o2 n1 n2,by simp[n1]⟩
 have:=key ps.length (by omega) (Nat.le_refl _)
 rw[List.take_of_length_le (Nat.le_refl _),rB (by omega)]at this
 exact this
theorem aN.ordered{Q:ah}:∀{d:Nat} {no:Int} {lo hi:ByteArray} {g:az},aN Q d no lo hi g->Ordered lo hi g.2:=by
 intro d
 induction d with
 |zero=>rintro no lo hi g ⟨n,h1,h2,h3,rfl,h5⟩;exact⟨h1.1.nd.fq,h5⟩
 |succ d ih=>
  rintro no lo hi g ⟨n,ps,h1,h2,h3,h4,h5,rfl⟩
  obtain⟨_,hmk,qh,_,_,_,ng⟩:=(aS h3).1 h1.1.nd.may
  refine(sQ hmk ng h4 fun i p hp=> ?_).1
  obtain⟨b8,hk⟩:∃b8,n.kids[i]? =some b8:=⟨_,List.getElem?_eq_getElem (by have:=(List.getElem?_eq_some_iff.1 hp).1;omega)⟩
  obtain⟨h6,h7⟩:=h5 i b8 p hk hp
  exact⟨ih h6,h7⟩
theorem ey{l:List ByteArray}(h:rising l){i j:Nat}{a b:ByteArray}(hij:i<j)(hi:l[i]? =some a)(hj:l[j]? =some b):bY a b=true:=by
 obtain⟨h1,rfl⟩:=List.getElem?_eq_some_iff.1 hi
 obtain⟨h2,rfl⟩:=List.getElem?_eq_some_iff.1 hj
 exact List.pairwise_iff_getElem.1 h i j h1 h2 hij
theorem qZ{keys:List ByteArray}(hr:rising keys){k lo hi:ByteArray}(h:bu k lo hi=true):bu k (bX keys lo (bM keys k)) (bF keys hi (bM keys k))=true:=by
 have hs:=jQ hr k
 obtain⟨h1,h2⟩:=cF.1 h
 refine cF.2 ?_
 unfold bM
 by_cases he:keys[aG keys k]? =some k
 . rw[if_pos he]
   have hlt:=(List.getElem?_eq_some_iff.1 he).1
   refine⟨?_,?_⟩
   . unfold bX
     rw[if_pos (by omega),Nat.add_sub_cancel,List.getD_eq_getElem?_getD,he]
     exact aC k
   . unfold bF
     by_cases hl:aG keys k+1<keys.length
     . rw[if_pos hl]
       obtain⟨b,hb⟩:∃b,keys[aG keys k+1]? =some b:=⟨_,List.getElem?_eq_getElem hl⟩
       rw[List.getD_eq_getElem?_getD,hb]
       exact .inr (ey hr (by omega) he hb)
     . rw[if_neg hl];exact h2
 . rw[if_neg he]
   refine⟨?_,?_⟩
   . unfold bX
     by_cases h0:0<aG keys k
     . rw[if_pos h0]
       obtain⟨b,hb⟩:∃b,keys[aG keys k-1]? =some b:=⟨_,List.getElem?_eq_getElem (by have:=hs.le;omega)⟩
       rw[List.getD_eq_getElem?_getD,hb]
       exact cL (hs.less _ b (by omega) hb)
     . rw[if_neg h0];exact h1
   . unfold bF
     by_cases hl:aG keys k<keys.length
     . rw[if_pos hl]
       obtain⟨b,hb⟩:∃b,keys[aG keys k]? =some b:=⟨_,List.getElem?_eq_getElem hl⟩
       rw[List.getD_eq_getElem?_getD,hb]
       have h3:=hs.rest _ b (Nat.le_refl _) hb
       rcases ep k b with h4|h4|h4
       . exact .inr h4
       . subst h4;exact absurd hb he
       . rw[h3]at h4;cases h4
     . rw[if_neg hl];exact h2
theorem qt{keys:List ByteArray}(hr:rising keys)(h0:∀k∈keys,k≠⟨#[]⟩){k lo hi:ByteArray}{i j:Nat}(hij:i<j)(hj:j<=keys.length)(h1:bu k (bX keys lo i) (bF keys hi i)=true)(h2:bu k (bX keys lo j) (bF keys hi j)=true):False:=by
 obtain⟨a,ha⟩:∃a,keys[i]? =some a:=⟨_,List.getElem?_eq_getElem (by omega)⟩
 obtain⟨b,hb⟩:∃b,keys[j-1]? =some b:=⟨_,List.getElem?_eq_getElem (by omega)⟩
 have h3:=(cF.1 h1).2
 have h4:=(cF.1 h2).1
 unfold bF at h3
 unfold bX at h4
 rw[if_pos (by omega),List.getD_eq_getElem?_getD,ha]at h3
 rw[if_pos (by omega),List.getD_eq_getElem?_getD,hb]at h4
 have h3:bY k a=true:=h3.resolve_left (h0 a (List.mem_of_getElem? ha))
 have h4:bY k b=false:=h4
 by_cases e:i=j-1
 . subst e;rw[ha]at hb;injection hb with hb;subst hb;rw[h3]at h4;cases h4
 . rw[bB h3 (ey hr (by omega) ha hb)]at h4;cases h4
def Found(cells:List Cell)(k:ByteArray):Option Cell->Prop
 |some z=>z∈cells/\z.key=k
 |none=>∀c∈cells,c.key≠k
theorem mX{cells:List Cell}(hr:rising (keysOf cells))(k:ByteArray):Found cells k (cellOf cells k):=by
 by_cases he:(keysOf cells)[aG (keysOf cells) k]? =some k
 . obtain⟨z,m9,yo⟩:=dO he
   rw[th m9 yo];exact⟨List.mem_of_getElem? m9,yo⟩
 . rw[iD he]
   intro c hc hk
   obtain⟨j,hj⟩:=List.getElem?_of_mem hc
   have hkj:(keysOf cells)[j]? =some k:=by unfold keysOf;rw[List.getElem?_map,hj,Option.map_some,hk]
   have hs:=jQ hr k
   rcases Nat.lt_trichotomy j (aG (keysOf cells) k)with h|h|h
   . have:=hs.less j k h hkj;rw[aC]at this;cases this
   . rw[<-h]at he;exact he hkj
   . obtain⟨b,hb⟩:∃b,(keysOf cells)[aG (keysOf cells) k]? =some b:=⟨_,List.getElem?_eq_getElem (by have:=(List.getElem?_eq_some_iff.1 hkj).1;omega)⟩
     have h1:=hs.rest _ b (Nat.le_refl _) hb
     rw[ey hr h hb hkj]at h1;cases h1
theorem aN.get{Q:ah}{k:ByteArray}:∀{d:Nat} {no:Int} {lo hi:ByteArray} {g:az},aN Q d no lo hi g->∀{f:Nat},d<f->bu k lo hi=true->∃o,pU (aI Q) k f no= .ok o/\Found g.2 k o:=by
 intro d
 induction d with
 |zero=>
  rintro no lo hi g ⟨n,h1,h2,h3,rfl,h5⟩ f hf hk
  obtain⟨f,rfl⟩:∃f',f=f'+1:=⟨f-1,by omega⟩
  have h0:no≠0:=by unfold av at h2;omega
  exact⟨_,oX h0 (dL h2 h1) h3,mX h1.1.nd.fq k⟩
 |succ d ih=>
  rintro no lo hi g ⟨n,ps,h1,h2,h3,h4,h5,rfl⟩ f hf hk
  obtain⟨f,rfl⟩:∃f',f=f'+1:=⟨f-1,by omega⟩
  have h0:no≠0:=by unfold av at h2;omega
  obtain⟨_,hmk,qh,_,_,_,ng⟩:=(aS h3).1 h1.1.nd.may
  have hne:∀k∈n.keys,k≠⟨#[]⟩:=fun k hk=>(iH (hmk k hk)).2
  have hil:=gA n.keys k
  obtain⟨b8,vv⟩:∃b8,n.kids[bM n.keys k]? =some b8:=⟨_,List.getElem?_eq_getElem (by omega)⟩
  obtain⟨p,hp⟩:∃p,ps[bM n.keys k]? =some p:=⟨_,List.getElem?_eq_getElem (by omega)⟩
  have hin:=qZ qh hk
  obtain⟨o,ho,C2⟩:=ih (h5 _ b8 p vv hp).1 (f:=f) (by omega) hin
  refine⟨o,by rw[wZ h0 (dL h2 h1) h3,List.getD_eq_getElem?_getD,vv];exact ho,?_⟩
  cases o with
  |some z=>exact⟨List.mem_flatMap.2 ⟨p,List.mem_of_getElem? hp,C2.1⟩,C2.2⟩
  |none=>
   intro c hc e
   obtain⟨q,hq,vg⟩:=List.mem_flatMap.1 hc
   obtain⟨j,hj⟩:=List.getElem?_of_mem hq
   have hjl:=(List.getElem?_eq_some_iff.1 hj).1
   obtain⟨kj,hkj⟩:∃kj,n.kids[j]? =some kj:=⟨_,List.getElem?_eq_getElem (by omega)⟩
   have hr:=(h5 j kj q hkj hj).1
   by_cases hji:j=bM n.keys k
   . subst hji;rw[hp]at hj;injection hj with hj;subst hj;exact C2 c vg e
   . have hcin:bu c.key (bX n.keys lo j) (bF n.keys hi j)=true:=hr.ordered.2 c vg
     rw[e]at hcin
     rcases Nat.lt_or_gt_of_ne hji with h|h
     . exact qt qh hne h (by omega) hcin hin
     . exact qt qh hne h (by omega) hin hcin
end Go.Pl
end
section
namespace Go.Pl
open Go Go.Sx
theorem r_{n:Nd}{st:Nat×Nat}{i:Nat}(hi:1<=i)(h:st.1≠0):(sX n st i).1≠0:=by
 unfold sX;split
 . dsimp only;omega
 . exact h
theorem tn{n:Nd}{i:Nat}(h1:1<=i)(h2:i<cu n)(hf:Fits (aY n i).1/\Fits (aY n i).2.1):dW n≠0:=by
 have key:∀m,i<m->(eJ n m).1≠0:=by
  intro m
  induction m with
  |zero=>intro h;omega
  |succ m ih=>
   intro h
   rw[ee n (by omega)]
   by_cases e:m=i
   . subst e
     by_cases h0:(eJ n m).1=0
     . unfold sX;rw[if_pos ⟨hf.1,hf.2,.inl h0⟩];dsimp only;omega
     . exact r_ h1 h0
   . exact r_ (by omega) (ih (by omega))
 exact key _ h2
theorem Be{n:Nd}(h:dW n≠0):1<=dW n/\dW n<cu n/\Fits (aY n (dW n)).1/\Fits (aY n (dW n)).2.1:=(lM n (cu n)).resolve_left h
theorem fm{n:Nd}(h:n.leaf=true):(b6 n).length=1+(put n.cells.length).length+(n.cells.flatMap au).length:=by
 unfold b6;rw[if_pos h];simp only[List.length_cons,List.length_append];omega
theorem rC{n:Nd}(h:n.leaf=false):(b6 n).length=1+(put n.kids.length).length+(n.kids.flatMap put).length+(n.keys.flatMap aQ).length:=by
 unfold b6;rw[if_neg (by rw[h];simp)];simp only[List.length_cons,List.length_append];omega
theorem qu{α:Type}{f:α->List UInt8}{b:Nat}:∀{l:List α},(∀x∈l,b<=(f x).length)->b*l.length<=(l.flatMap f).length:=by
 intro l
 induction l with
 |nil=>intro _;simp
 |cons x l ih=>
  intro h
  have h1:=h x (by simp)
  have h2:=ih fun y hy=>h y (by simp[hy])
  simp only[List.flatMap_cons,List.length_append,List.length_cons,Nat.mul_succ];omega
theorem qv{c:Cell}(h:aA c=true):4<=(au c).length:=by
 have hk:=(nI h).key
 have h1:=d_ c.val.kind
 have h2:=d_ c.aV
 have h3:c.key≠⟨#[]⟩:=by
  unfold aA at h
  simp only[Bool.and_eq_true]at h
  exact(iH h.1.1.1.1.1).2
 have h4:0<c.key.size:=by
  rcases Nat.eq_zero_or_pos c.key.size with h|h
  . exfalso;apply h3;apply ByteArray.ext;exact Array.eq_empty_of_size_eq_zero h
  . exact h
 have h5:=iC (s:=c.key) (by omega)
 unfold au bV
 simp only[List.length_append];omega
theorem E_{n:Nd}(hm:cQ n)(hl:n.leaf=true)(hb:(n.cells.flatMap au).length<=321)(hf:¬Fits n):dW n≠0:=by
 obtain⟨qC,hk2,FH,hr⟩:=(b5 hl).1 hm
 have hlen:=fm hl
 have k_:256<(b6 n).length:=Nat.lt_of_not_le fun h=>hf ⟨hm,h⟩
 have hcb:∀c∈n.cells,(au c).length<=67:=fun c hc=>fX (FH c hc)
 have hlo:=qu (f:=au) (b:=4) fun c hc=>qv (FH c hc)
 have hput:(put (n.cells.length:Int)).length<=10:=(Gw (by omega) (by omega)).2
 let P:=fun i=>((n.cells.take i).flatMap au).length
 have hstep:∀i,P (i+1)<=P i+67:=by
  intro i
  show((n.cells.take (i+1)).flatMap au).length<=((n.cells.take i).flatMap au).length+67
  cases h:n.cells[i]?with
  |none=>rw[List.take_of_length_le (by have:=List.getElem?_eq_none_iff.1 h;omega),List.take_of_length_le (List.getElem?_eq_none_iff.1 h)];omega
  |some x=>rw[lI h,List.length_append];have:=hcb x (List.mem_of_getElem? h);omega
 have P8:∀i,P i+((n.cells.drop i).flatMap au).length=(n.cells.flatMap au).length:=by
  intro i
  show((n.cells.take i).flatMap au).length+_=_
  rw[<-List.length_append,<-List.flatMap_append,List.take_append_drop]
 have RD:P 0=0:=by show((n.cells.take 0).flatMap au).length=0;simp
 have Sv:P n.cells.length=(n.cells.flatMap au).length:=by show((n.cells.take n.cells.length).flatMap au).length=_;rw[List.take_of_length_le (Nat.le_refl _)]
 have hmono:∀i,n.cells.length<=i->P i=(n.cells.flatMap au).length:=fun i hi=>by show((n.cells.take i).flatMap au).length=_;rw[List.take_of_length_le hi]
 obtain⟨i,h1,h2,h3⟩:∃i,1<=i/\P i<=134/\(n.cells.flatMap au).length-254<=P i:=by
  generalize hs:(n.cells.flatMap au).length-254=s
  have VK:s<=67:=by omega
  have key:∀m,s<=P m->∃i,1<=i/\P i<=134/\s<=P i:=by
   intro m
   induction m with
   |zero=>intro h;have:=hstep 0;rw[Nat.zero_add]at this;exact⟨1,Nat.le_refl _,by omega,by omega⟩
   |succ m ih=>
    intro h
    by_cases h4:s<=P m
    . exact ih h4
    . have:=hstep m;exact⟨m+1,by omega,by omega,h⟩
  exact key n.cells.length (by omega)
 have hlt:i<n.cells.length:=by
  refine Nat.lt_of_not_le fun h=> ?_
  have:=hmono i h;omega
 have Ok:=P8 i
 have Ok:P i+((n.cells.drop i).flatMap au).length=(n.cells.flatMap au).length:=Ok
 have jq:=qu (f:=au) (b:=4) (l:=n.cells.take i) fun c hc=>qv (FH c (List.mem_of_mem_take hc))
 have WX:=qu (f:=au) (b:=4) (l:=n.cells.drop i) fun c hc=>qv (FH c (List.mem_of_mem_drop hc))
 have Up:((n.cells.take i).flatMap au).length=P i:=rfl
 refine tn (i:=i) h1 (by unfold cu;rw[if_pos hl];exact hlt) ?_
 rw[gf hl]
 refine⟨⟨(b5 rfl).2 ⟨rfl,rfl,fun c hc=>FH c (List.mem_of_mem_take hc),?_⟩,?_⟩,⟨(b5 rfl).2 ⟨rfl,rfl,fun c hc=>FH c (List.mem_of_mem_drop hc),?_⟩,?_⟩⟩
 . dsimp only;rw[List.map_take];exact hr.sublist (List.take_sublist _ _)
 . rw[fm rfl];dsimp only;rw[di (by omega) (by rw[Up]at jq;omega)];omega
 . dsimp only;rw[List.map_drop];exact hr.sublist (List.drop_sublist _ _)
 . rw[fm rfl];dsimp only;rw[di (by omega) (by omega)];omega
theorem Fa{l:List Int}(h:∀x∈l,2<=x/\x<32):(l.flatMap put).length=l.length:=by
 induction l with
 |nil=>rfl
 |cons x l ih=>
  have h1:=h x (by simp)
  rw[List.flatMap_cons,List.length_append,di (by omega) (by omega),ih fun y hy=>h y (by simp[hy]),List.length_cons];omega
theorem Cf{l:List ByteArray}(h:∀k∈l,bp k=true):(l.flatMap aQ).length<=17*l.length:=
 nP fun k hk=>by have:=(iH (h k hk)).1;rw[iC (by omega)];omega
theorem nV{n:Nd}(hm:cQ n)(hl:n.leaf=false)(hk:n.kids.length<=15):Fits n:=by
 obtain⟨h1,h2,h3,h4,h5,h6,h7⟩:=(aS hl).1 hm
 refine⟨hm,?_⟩
 rw[rC hl,di (by omega) (by omega),Fa h4]
 have:=Cf h2
 omega
theorem Fb{n:Nd}(hm:cQ n)(hl:n.leaf=false)(hk:n.kids.length<=30)(hf:¬Fits n):dW n≠0/\16<=n.kids.length:=by
 have k_:16<=n.kids.length:=by
  refine Nat.le_of_not_lt fun h=>hf (nV hm hl (by omega))
 obtain⟨h1,h2,h3,h4,h5,h6,h7⟩:=(aS hl).1 hm
 refine⟨tn (i:=n.kids.length/2) (by omega) (by unfold cu;rw[if_neg (by rw[hl];simp)];omega) ?_,k_⟩
 rw[gh hl]
 refine⟨nV ((aS rfl).2 ⟨rfl,fun k hk=>h2 k (List.mem_of_mem_take hk),h3.sublist (List.take_sublist _ _),fun x hx=>h4 x (List.mem_of_mem_take hx),?_,?_,?_⟩) rfl ?_,nV ((aS rfl).2 ⟨rfl,fun k hk=>h2 k (List.mem_of_mem_drop hk),h3.sublist (List.drop_sublist _ _),fun x hx=>h4 x (List.mem_of_mem_drop hx),?_,?_,?_⟩) rfl ?_⟩
 all_goals dsimp only
 all_goals simp only[List.length_take,List.length_drop]
 all_goals omega
theorem oh{l:List ByteArray}(h:rising l):l.Nodup:=h.imp fun h=>uw h
theorem key_inj{cells:List Cell}(h:rising (keysOf cells)){a b:Cell}(ha:a∈cells)(hb:b∈cells)(e:a.key=b.key):a=b:=by
 obtain⟨i,hi⟩:=List.getElem?_of_mem ha
 obtain⟨j,hj⟩:=List.getElem?_of_mem hb
 rcases Nat.lt_trichotomy i j with hij|hij|hij
 . have:=ey h hij (bG hi) (bG hj);rw[e,aC]at this;cases this
 . subst hij;rw[hi]at hj;injection hj
 . have:=ey h hij (bG hj) (bG hi);rw[e,aC]at this;cases this
theorem sg:∀{a b:List Cell},rising (keysOf a)->rising (keysOf b)->(∀c,c∈a↔c∈b)->a=b:=by
 intro a
 induction a with
 |nil=>
  intro b _ _ h
  cases b with
  |nil=>rfl
  |cons y b=>have:=(h y).2 (by simp);cases this
 |cons x a ih=>
  intro b ha hb h
  cases b with
  |nil=>have:=(h x).1 (by simp);cases this
  |cons y b=>
   unfold keysOf at ha hb
   rw[List.map_cons]at ha hb
   obtain⟨Uq,Ur⟩:=List.pairwise_cons.1 ha
   obtain⟨vM,j6⟩:=List.pairwise_cons.1 hb
   have RF:∀c∈a,bY x.key c.key=true:=fun c hc=>Uq _ (List.mem_map.2 ⟨c,hc,rfl⟩)
   have hby:∀c∈b,bY y.key c.key=true:=fun c hc=>vM _ (List.mem_map.2 ⟨c,hc,rfl⟩)
   have hxy:x=y:=by
    rcases List.mem_cons.1 ((h x).1 (by simp))with e|e
    . exact e
    . rcases List.mem_cons.1 ((h y).2 (by simp))with e2|e2
      . exact e2.symm
      . have h1:=hby x e
        have h2:=RF y e2
        rw[cL h1]at h2;cases h2
   subst hxy
   congr 1
   refine ih Ur j6 fun c=>⟨fun hc=> ?_,fun hc=> ?_⟩
   . rcases List.mem_cons.1 ((h c).1 (List.mem_cons_of_mem _ hc))with e|e
     . subst e;have:=RF c hc;rw[aC]at this;cases this
     . exact e
   . rcases List.mem_cons.1 ((h c).2 (List.mem_cons_of_mem _ hc))with e|e
     . subst e;have:=hby c hc;rw[aC]at this;cases this
     . exact e
def iS(x:Cell)(a b:List Cell):Prop:=∀c,c∈b↔c=x\/(c∈a/\c.key≠x.key)
def iI(k:ByteArray)(a b:List Cell):Prop:=∀c,c∈b↔c∈a/\c.key≠k
theorem kR{cells:List Cell}(hr:rising (keysOf cells))(x:Cell):rising (keysOf (bZ cells x))/\iS x cells (bZ cells x):=by
 have hs:=jQ hr x.key
 by_cases he:(keysOf cells)[aG (keysOf cells) x.key]? =some x.key
 . rw[qs he]
   obtain⟨z,m9,yo⟩:=dO he
   have hlt:=(List.getElem?_eq_some_iff.1 m9).1
   refine⟨?_,fun c=> ?_⟩
   . have e:keysOf (cells.set (aG (keysOf cells) x.key) x)=keysOf cells:=by
      unfold keysOf at he⊢
      rw[List.map_set]
      refine List.ext_getElem? fun j=> ?_
      by_cases e:aG (cells.map Cell.key) x.key=j
      . subst e;rw[List.getElem?_set_self (List.getElem?_eq_some_iff.1 he).1,he]
      . rw[List.getElem?_set_ne e]
     rw[e];exact hr
   . constructor
     . intro hc
       obtain⟨j,hj⟩:=List.getElem?_of_mem hc
       by_cases e:aG (keysOf cells) x.key=j
       . subst e;rw[List.getElem?_set_self hlt]at hj;injection hj with hj;exact .inl hj.symm
       . rw[List.getElem?_set_ne e]at hj
         refine .inr ⟨List.mem_of_getElem? hj,fun ek=>e ?_⟩
         have h1:=key_inj hr (List.mem_of_getElem? hj) (List.mem_of_getElem? m9) (ek.trans yo.symm)
         subst h1
         rcases Nat.lt_trichotomy j (aG (keysOf cells) x.key)with h|h|h
         . have:=ey hr h (bG hj) (bG m9);rw[aC]at this;cases this
         . exact h.symm
         . have:=ey hr h (bG m9) (bG hj);rw[aC]at this;cases this
     . rintro(rfl|⟨hc,hk⟩)
       . exact List.mem_of_getElem? (List.getElem?_set_self hlt)
       . obtain⟨j,hj⟩:=List.getElem?_of_mem hc
         refine List.mem_of_getElem? (i:=j) ((List.getElem?_set_ne fun e=>hk ?_).trans hj)
         subst e;rw[m9]at hj;injection hj with hj;rw[<-hj];exact yo
 . rw[rz he]
   have hlt:=fun(j:Nat) (c:Cell) (h:j<aG (keysOf cells) x.key) (hj:cells[j]? =some c)=>hs.less j c.key h (bG hj)
   have hgt:∀(j:Nat) (c:Cell),aG (keysOf cells) x.key<=j->cells[j]? =some c->bY x.key c.key=true:=by
    intro j c h hj
    have h1:=hs.rest j c.key h (bG hj)
    rcases ep x.key c.key with h2|h2|h2
    . exact h2
    . exfalso
      by_cases e:aG (keysOf cells) x.key=j
      . rw[e]at he;rw[bG hj,h2]at he;exact he rfl
      . obtain⟨b,hb⟩:∃b,(keysOf cells)[aG (keysOf cells) x.key]? =some b:=⟨_,List.getElem?_eq_getElem (by have:=(List.getElem?_eq_some_iff.1 (bG hj)).1;omega)⟩
        have h3:=hs.rest _ b (Nat.le_refl _) hb
        rw[h2,ey hr (by omega) hb (bG hj)]at h3;cases h3
    . rw[h1]at h2;cases h2
   refine⟨?_,fun c=> ?_⟩
   . have e:keysOf (aJ cells (aG (keysOf cells) x.key) x)=(keysOf cells).take (aG (keysOf cells) x.key)++x.key::(keysOf cells).drop (aG (keysOf cells) x.key):=by
      unfold keysOf aJ;rw[List.map_append,List.map_cons,List.map_take,List.map_drop]
     rw[e]
     refine List.pairwise_append.2 ⟨hr.sublist (List.take_sublist _ _),List.pairwise_cons.2 ⟨fun b hb=> ?_,hr.sublist (List.drop_sublist _ _)⟩,fun a ha b hb=> ?_⟩
     . obtain⟨j,hj⟩:=List.getElem?_of_mem hb
       rw[List.getElem?_drop]at hj
       obtain⟨c,hc,rfl⟩:=dO hj
       exact hgt _ c (by omega) hc
     . obtain⟨i,hi⟩:=List.getElem?_of_mem ha
       have hil:i<aG (keysOf cells) x.key:=by
        have:=(List.getElem?_eq_some_iff.1 hi).1;rw[List.length_take]at this;omega
       rw[List.getElem?_take_of_lt hil]at hi
       obtain⟨c,hc,rfl⟩:=dO hi
       have h1:=hlt i c hil hc
       rcases List.mem_cons.1 hb with rfl|hb
       . exact h1
       . obtain⟨j,hj⟩:=List.getElem?_of_mem hb
         rw[List.getElem?_drop]at hj
         obtain⟨c2,IJ,rfl⟩:=dO hj
         exact bB h1 (hgt _ c2 (by omega) IJ)
   . unfold aJ
     rw[List.mem_append,List.mem_cons]
     have hall:c∈cells↔c∈cells.take (aG (keysOf cells) x.key)\/c∈cells.drop (aG (keysOf cells) x.key):=by
      rw[<-List.mem_append,List.take_append_drop]
     have hne:c∈cells->c.key≠x.key:=by
      intro hc e
      obtain⟨j,hj⟩:=List.getElem?_of_mem hc
      rcases Nat.lt_or_ge j (aG (keysOf cells) x.key)with h|h
      . have:=hlt j c h hj;rw[e,aC]at this;cases this
      . have:=hgt j c h hj;rw[e,aC]at this;cases this
     constructor
     . rintro(h|h|h)
       . exact .inr ⟨hall.2 (.inl h),hne (hall.2 (.inl h))⟩
       . exact .inl h
       . exact .inr ⟨hall.2 (.inr h),hne (hall.2 (.inr h))⟩
     . rintro(h|⟨h,_⟩)
       . exact .inr (.inl h)
       . rcases hall.1 h with h|h
         . exact .inl h
         . exact .inr (.inr h)
end Go.Pl
end
section
namespace Go.Pl
open Go Go.Sx
theorem tq:∀(l:List UInt8) (i:Nat),Op.bytesLess l (l.take i)=false
 |l,0=>by rw[List.take_zero];cases l<;>rfl
 |[],i+1=>rfl
 |a::l,i+1=>by
  have h:¬a<a:=by have:=UInt8.lt_irrefl a;exact this
  rw[List.take_succ_cons]
  unfold Op.bytesLess
  rw[tq l i];simp[h]
theorem om(b:ByteArray)(i:Nat):(b.extract 0 i).data.toList=b.data.toList.take i:=by
 rw[ByteArray.data_extract];simp
theorem Fc{a b:ByteArray}(h:bY a b=true)(hb:b.size<=16):bY a (gP a b)=true/\bY b (gP a b)=false/\bp (gP a b)=true:=by
 have hex:∃i,i<=b.size/\bY a (b.extract 0 i)=true:=by
  refine⟨b.size,Nat.le_refl _,?_⟩
  have e:b.extract 0 b.size=b:=by
   apply ByteArray.ext
   apply Array.ext'
   rw[om]
   exact List.take_of_length_le (Nat.le_of_eq Array.length_toList)
  rw[e];exact h
 obtain⟨i,hi,h1,h2⟩:∃i,i<=b.size/\bY a (b.extract 0 i)=true/\∀j,j<i->bY a (b.extract 0 j)=false:=by
  obtain⟨i,hi,h1⟩:=hex
  induction i using Nat.strongRecOn with
  |_ i ih=>
   by_cases hx:∃j,j<i/\bY a (b.extract 0 j)=true
   . obtain⟨j,hj,Og⟩:=hx;exact ih j hj (by omega) Og
   . refine⟨i,hi,h1,fun j hj=> ?_⟩
     cases e:bY a (b.extract 0 j)with
     |false=>rfl
     |true=>exact absurd ⟨j,hj,e⟩ hx
 rw[Ea hi h2 h1]
 refine⟨h1,?_,?_⟩
 . unfold bY;rw[om];exact tq _ _
 . unfold bp
   rw[Bool.and_eq_true,decide_eq_true_eq,decide_eq_true_eq]
   refine⟨fun e=> ?_,?_⟩
   . rw[e,A7]at h1;cases h1
   . rw[ByteArray.size_extract];omega
structure BD(Q Q':ah)(r:Int)(u:Int->Prop)(k:Nat)(a b:List Int):Prop where
 fst:iX Q' r (fun m=>u m\/m∈b)
 nodup:b.Nodup
 old:∀m∈a,m∈b
 new:∀m∈b,m∈a\/¬u m
 j7:b.length<=a.length+k
 rest:∀m,m≠1->m∉b->Q' m=Q m
def Grown(Q:ah)(r:Int)(u:Int->Prop)(d:Nat)(no:Int)(lo hi:ByteArray)(g:az)(x:Cell)(res:TE (Part×ah)):Prop:=
 (∃Q' g',res= .ok (kJ,Q')/\aN Q' d no lo hi g'/\iS x g.2 g'.2/\BD Q Q' r u d g.1 g'.1/\(1<d->∀n n',bz (Q no) n->bz (Q' no) n'->n'.kids.length<=n.kids.length\/(n'.kids.length=n.kids.length+1/\2*n.kids.length+15<=g.1.length)))\/
 (∃Q' k to ga gb,res= .ok ((k,to),Q')/\av to/\aN Q' d no lo k ga/\aN Q' d to k hi gb/\bp k=true/\ga.2≠[]/\gb.2≠[]/\iS x g.2 (ga.2++gb.2)/\BD Q Q' r u (d+1) g.1 (ga.1++gb.1)/\(0<d->16<=g.1.length/\∀n,bz (Q no) n->15<=n.kids.length))\/
 (res= .error 4/\∃l:List Int,l.length<=d/\(∀m,av m->u m\/m∈l)/\(0<d->d<=l.length->∀n,bz (Q no) n->15<=n.kids.length))
theorem Cg{cells:List Cell}{x:Cell}:((bZ cells x).flatMap au).length<=(cells.flatMap au).length+(au x).length:=by
 have Mp:∀i,(cells.flatMap au).length=((cells.take i).flatMap au).length+((cells.drop i).flatMap au).length:=by
  intro i;rw[<-List.length_append,<-List.flatMap_append,List.take_append_drop]
 by_cases he:(keysOf cells)[aG (keysOf cells) x.key]? =some x.key
 . rw[qs he]
   obtain⟨z,hz,_⟩:=dO he
   obtain⟨hlt,hz⟩:=List.getElem?_eq_some_iff.1 hz
   rw[List.set_eq_take_append_cons_drop,if_pos hlt,Mp (aG (keysOf cells) x.key),List.drop_eq_getElem_cons hlt]
   simp only[List.flatMap_append,List.flatMap_cons,List.length_append];omega
 . rw[rz he,Mp (aG (keysOf cells) x.key)]
   unfold aJ
   simp only[List.flatMap_append,List.flatMap_cons,List.length_append];omega
theorem z1{Q:ah}{r:Int}{u:Int->Prop}{no:Int}{lo hi:ByteArray}{n:Nd}{x:Cell}(hF:iX Q r u)(hu:u no)(hp:bz (Q no) n)(hl:n.leaf=true)(hin:∀c∈n.cells,bu c.key lo hi=true)
 (hx:aA x=true)(fR:x.val.f<2^64/\x.new.f<2^64)(l6:bu x.key lo hi=true):Grown Q r u 0 no lo hi ([no],n.cells) x (lg Q no {n with cells:=bZ n.cells x}):=by
 have hno:=hF.may hu
 have lp:no≠1:=by unfold av at hno;omega
 obtain⟨qC,hk2,FH,hr⟩:=(b5 hl).1 hp.1.nd.may
 obtain⟨kg,hput⟩:=kR hr x
 have hmay:∀c∈bZ n.cells x,aA c=true/\(c.val.f<2^64/\c.new.f<2^64)/\bu c.key lo hi=true:=fun c hc=>by
  rcases(hput c).1 hc with rfl|⟨h,_⟩
  . exact⟨hx,fR,l6⟩
  . exact⟨FH c h,hp.1.fl c h,hin c h⟩
 have hmn:cQ {n with cells:=bZ n.cells x}:=(b5 (n:={n with cells:=bZ n.cells x}) hl).2 ⟨qC,hk2,fun c hc=>(hmay c hc).1,kg⟩
 by_cases hf:Fits {n with cells:=bZ n.cells x}
 . rw[nR hf]
   refine .inl ⟨_,([no],bZ n.cells x),rfl,⟨{n with cells:=bZ n.cells x},dY (n:={n with cells:=bZ n.cells x}) ⟨hf,fun c hc=>(hmay c hc).2.1⟩,hno,hl,rfl,fun c hc=>(hmay c hc).2.2⟩,hput,⟨?_,by simp,fun m hm=>hm,fun m hm=> .inl hm,Nat.le_refl _,fun m h1 h2=>bQ fun e=>h2 (by rw[e];simp)⟩,fun h=>absurd h (by omega)⟩
   refine(hF.other (bQ (Ne.symm lp))).iff fun m=>⟨.inl,?_⟩
   rintro(h|h)
   . exact h
   . rw[List.mem_singleton]at h;rw[h];exact hu
 . have hold:=fm hl
   have Us:=hp.1.fits.2
   have IK:=d_ (n.cells.length:Int)
   have hib:=Cg (cells:=n.cells) (x:=x)
   have WY:=fX hx
   have hb:=E_ hmn hl (by dsimp only;omega) hf
   obtain⟨vM,j6,IL,IM⟩:=Be hb
   rcases hF.take with⟨to,Q1,ht,hto,l7,FI,OU⟩|⟨ht,hfull⟩
   . rw[ry hf hb ht]
     generalize dW {n with cells:=bZ n.cells x}=i at*
     have AS:cu {n with cells:=bZ n.cells x}=(bZ n.cells x).length:=by unfold cu;rw[if_pos hl]
     rw[AS]at j6
     rw[gf (n:={n with cells:=bZ n.cells x}) hl]at IL IM⊢
     dsimp only at IL IM⊢
     obtain⟨a,ha⟩:∃a,(bZ n.cells x)[i-1]? =some a:=⟨_,List.getElem?_eq_getElem (by omega)⟩
     obtain⟨b,hb⟩:∃b,(bZ n.cells x)[i]? =some b:=⟨_,List.getElem?_eq_getElem j6⟩
     rw[nQ ha,nQ hb]
     have hab:=ey kg (by omega) (bG ha) (bG hb)
     have hma:=hmay a (List.mem_of_getElem? ha)
     have hmb:=hmay b (List.mem_of_getElem? hb)
     obtain⟨oz,hm2,OV⟩:=Fc hab (nI hmb.1).key
     have Mq:to≠no:=fun e=>l7 (by rw[e];exact hu)
     have P9:to≠1:=by unfold av at hto;omega
     refine .inr (.inl ⟨_,_,to,([no],(bZ n.cells x).take i),([to],(bZ n.cells x).drop i),rfl,hto,⟨⟨true,(bZ n.cells x).take i,[],[]⟩,?_,hno,rfl,rfl,fun c hc=> ?_⟩,⟨⟨true,(bZ n.cells x).drop i,[],[]⟩,dY ⟨IM,fun c hc=>(hmay c (List.mem_of_mem_drop hc)).2.1⟩,hto,rfl,rfl,fun c hc=> ?_⟩,OV,?_,?_,?_,⟨?_,?_,?_,?_,?_,?_⟩,fun h=>absurd h (Nat.lt_irrefl 0)⟩)
     . rw[bQ (Ne.symm Mq)];exact dY ⟨IL,fun c hc=>(hmay c (List.mem_of_mem_take hc)).2.1⟩
     . have IJ:=(hmay c (List.mem_of_mem_take hc)).2.2
       refine cF.2 ⟨(cF.1 IJ).1,.inr ?_⟩
       obtain⟨j,hj⟩:=List.getElem?_of_mem hc
       have hji:j<i:=by have:=(List.getElem?_eq_some_iff.1 hj).1;rw[List.length_take]at this;omega
       rw[List.getElem?_take_of_lt hji]at hj
       by_cases e:j=i-1
       . subst e;rw[ha]at hj;injection hj with hj;subst hj;exact oz
       . exact bB (ey kg (by omega) (bG hj) (bG ha)) oz
     . have IJ:=(hmay c (List.mem_of_mem_drop hc)).2.2
       refine cF.2 ⟨?_,(cF.1 IJ).2⟩
       obtain⟨j,hj⟩:=List.getElem?_of_mem hc
       rw[List.getElem?_drop]at hj
       by_cases e:j=0
       . subst e;rw[Nat.add_zero,hb]at hj;injection hj with hj;subst hj;exact hm2
       . have h5:=ey kg (show i<i+j by omega) (bG hb) (bG hj)
         cases h6:bY c.key (gP a.key b.key)with
         |false=>rfl
         |true=>have:=bB h5 h6;rw[hm2]at this;cases this
     . intro e;have:=congrArg List.length e;simp only[List.length_take,List.length_nil]at this;omega
     . intro e;have:=congrArg List.length e;simp only[List.length_drop,List.length_nil]at this;omega
     . dsimp only;rw[List.take_append_drop];exact hput
     . refine(FI.other ?_).iff fun m=> ?_
       . rw[bQ (Ne.symm P9),bQ (Ne.symm lp)]
       . simp only[List.mem_append,List.mem_singleton]
         constructor
         . rintro(h|h)
           . exact .inr (.inr h)
           . exact .inl h
         . rintro(h|h|h)
           . exact .inr h
           . rw[h];exact .inr hu
           . exact .inl h
     . simp only[List.singleton_append];exact List.nodup_cons.2 ⟨by simp[Ne.symm Mq],by simp⟩
     . intro m hm;simp at hm⊢;exact .inl hm
     . intro m hm
       simp only[List.mem_append,List.mem_singleton]at hm
       rcases hm with hm|hm
       . exact .inl (by simp[hm])
       . exact .inr (by rw[hm];exact l7)
     . simp
     . intro m h1 h2
       simp only[List.mem_append,List.mem_singleton,not_or]at h2
       rw[bQ h2.2,bQ h2.1,OU m h1 h2.2]
   . rw[oW hf hb ht]
     exact .inr (.inr ⟨rfl,[],Nat.le_refl _,fun m hm=> .inl (hfull m hm),fun h=>absurd h (by omega)⟩)
end Go.Pl
end
section
namespace Go.Pl
open Go Go.Sx
def eL(Q:ah)(d:Nat)(n:Nd)(lo hi:ByteArray)(ps:List az):Prop:=ps.length=n.kids.length/\
 ∀(i:Nat) (b8:Int) (p:az),n.kids[i]? =some b8->ps[i]? =some p->aN Q d b8 (bX n.keys lo i) (bF n.keys hi i) p/\p.2≠[]
def wg(no:Int)(ps:List az):az:=(no::ps.flatMap Prod.fst,ps.flatMap Prod.snd)
theorem aN.ways{Q:ah}{d:Nat}{no:Int}{n:Nd}{lo hi:ByteArray}{ps:List az}(hp:bz (Q no) n)(hno:av no)(hl:n.leaf=false)(h:eL Q d n lo hi ps):aN Q (d+1) no lo hi (wg no ps):=⟨n,ps,hp,hno,hl,h.1,h.2,rfl⟩
theorem eL.frame{Q Q':ah}{d:Nat}{n:Nd}{lo hi:ByteArray}{ps:List az}(h:eL Q d n lo hi ps)(he:∀p∈ps,∀m∈p.1,Q' m=Q m):eL Q' d n lo hi ps:=
 ⟨h.1,fun i b8 p hk hp=>⟨(h.2 i b8 p hk hp).1.frame fun m hm=>he p (List.mem_of_getElem? hp) m hm,(h.2 i b8 p hk hp).2⟩⟩
theorem eL.ordered{Q:ah}{d:Nat}{n:Nd}{lo hi:ByteArray}{ps:List az}(h:eL Q d n lo hi ps){i:Nat}{p:az}(hp:ps[i]? =some p):Ordered (bX n.keys lo i) (bF n.keys hi i) p.2/\p.2≠[]:=by
 obtain⟨b8,hk⟩:∃b8,n.kids[i]? =some b8:=⟨_,List.getElem?_eq_getElem (by have:=(List.getElem?_eq_some_iff.1 hp).1;have:=h.1;omega)⟩
 obtain⟨h1,h2⟩:=h.2 i b8 p hk hp
 exact⟨h1.ordered,h2⟩
theorem eL.Kk{Q:ah}{d:Nat}{n:Nd}{lo hi:ByteArray}{ps:List az}(h:eL Q d n lo hi ps)(ng:n.keys.length+1=n.kids.length){b:Nat}(h1:1<=b)(h2:b<n.kids.length){K:ByteArray}(hK:n.keys[b-1]? =some K):
 eL Q d ⟨false,[],n.keys.take (b-1),n.kids.take b⟩ lo K (ps.take b)/\eL Q d ⟨false,[],n.keys.drop b,n.kids.drop b⟩ K hi (ps.drop b):=by
 refine⟨⟨by simp only[List.length_take];have:=h.1;omega,fun i b8 p hk hp=> ?_⟩,⟨by simp only[List.length_drop];have:=h.1;omega,fun i b8 p hk hp=> ?_⟩⟩
 . have hib:i<b:=by have:=(List.getElem?_eq_some_iff.1 hp).1;rw[List.length_take]at this;omega
   dsimp only at hk⊢
   rw[List.getElem?_take_of_lt hib]at hk hp
   obtain⟨h3,h4⟩:=h.2 i b8 p hk hp
   have e1:bX (n.keys.take (b-1)) lo i=bX n.keys lo i:=by
    unfold bX
    by_cases h0:0<i
    . rw[if_pos h0,if_pos h0,List.getD_eq_getElem?_getD,List.getD_eq_getElem?_getD,List.getElem?_take_of_lt (by omega)]
    . rw[if_neg h0,if_neg h0]
   have e2:bF (n.keys.take (b-1)) K i=bF n.keys hi i:=by
    unfold bF
    by_cases h0:i<b-1
    . rw[if_pos (by rw[List.length_take];omega),if_pos (by omega),List.getD_eq_getElem?_getD,List.getD_eq_getElem?_getD,List.getElem?_take_of_lt h0]
    . obtain rfl:i=b-1:=by omega
      rw[if_neg (by rw[List.length_take];omega),if_pos (by omega),List.getD_eq_getElem?_getD,hK];rfl
   rw[e1,e2];exact⟨h3,h4⟩
 . dsimp only at hk⊢
   rw[List.getElem?_drop]at hk hp
   obtain⟨h3,h4⟩:=h.2 _ b8 p hk hp
   have hil:=(List.getElem?_eq_some_iff.1 hk).1
   have e1:bX (n.keys.drop b) K i=bX n.keys lo (b+i):=by
    unfold bX
    by_cases h0:0<i
    . rw[if_pos h0,if_pos (by omega),List.getD_eq_getElem?_getD,List.getD_eq_getElem?_getD,List.getElem?_drop,show b+(i-1)=b+i-1 by omega]
    . obtain rfl:i=0:=by omega
      rw[if_neg h0,if_pos (by omega),Nat.add_zero,List.getD_eq_getElem?_getD,hK];rfl
   have e2:bF (n.keys.drop b) hi i=bF n.keys hi (b+i):=by
    unfold bF
    by_cases h0:b+i<n.keys.length
    . rw[if_pos (by rw[List.length_drop];omega),if_pos h0,List.getD_eq_getElem?_getD,List.getD_eq_getElem?_getD,List.getElem?_drop]
    . rw[if_neg (by rw[List.length_drop];omega),if_neg h0]
   rw[e1,e2];exact⟨h3,h4⟩
def eF(Q:ah)(d:Nat)(n:Nd)(lo hi:ByteArray)(ps:List az)(i:Nat):Prop:=ps.length=n.kids.length/\
 ∀(j:Nat) (b8:Int) (p:az),j≠i->n.kids[j]? =some b8->ps[j]? =some p->aN Q d b8 (bX n.keys lo j) (bF n.keys hi j) p/\p.2≠[]
theorem eL.but{Q Q':ah}{d:Nat}{n:Nd}{lo hi:ByteArray}{ps:List az}(h:eL Q d n lo hi ps){i:Nat}(he:∀(j:Nat) (q:az),j≠i->ps[j]? =some q->∀m∈q.1,Q' m=Q m):eF Q' d n lo hi ps i:=
 ⟨h.1,fun j b8 p hj hk hp=>⟨(h.2 j b8 p hk hp).1.frame (he j p hj hp),(h.2 j b8 p hk hp).2⟩⟩
theorem eF.set{Q:ah}{d:Nat}{n:Nd}{lo hi:ByteArray}{ps:List az}{i:Nat}(h:eF Q d n lo hi ps i){b8:Int}{q:az}(hk:n.kids[i]? =some b8)(hq:aN Q d b8 (bX n.keys lo i) (bF n.keys hi i) q)(FV:q.2≠[]):eL Q d n lo hi (ps.set i q):=by
 refine⟨by rw[List.length_set];exact h.1,fun j kj p hkj hp=> ?_⟩
 by_cases e:i=j
 . subst e
   have hil:i<ps.length:=by have:=(List.getElem?_eq_some_iff.1 hk).1;have:=h.1;omega
   rw[List.getElem?_set_self hil]at hp
   injection hp with hp;subst hp
   rw[hk]at hkj;injection hkj with hkj;subst hkj
   exact⟨hq,FV⟩
 . rw[List.getElem?_set_ne e]at hp
   exact h.2 j kj p (Ne.symm e) hkj hp
theorem lT{α:Type}{l:List α}{i:Nat}{y:α}(hi:i<=l.length)(j:Nat):(aJ l i y)[j]? =if j<i then l[j]?else if j=i then some y else l[j-1]? :=by
 unfold aJ
 by_cases h1:j<i
 . rw[if_pos h1,List.getElem?_append_left (by rw[List.length_take];omega),List.getElem?_take_of_lt h1]
 . rw[if_neg h1,List.getElem?_append_right (by rw[List.length_take];omega),List.length_take,Nat.min_eq_left hi]
   by_cases h2:j=i
   . subst h2;rw[if_pos rfl,Nat.sub_self];rfl
   . rw[if_neg h2]
     obtain⟨k,hk⟩:∃k,j-i=k+1:=⟨j-i-1,by omega⟩
     rw[hk,List.getElem?_cons_succ,List.getElem?_drop,show i+k=j-1 by omega]
theorem eF.two{Q:ah}{d:Nat}{n:Nd}{lo hi:ByteArray}{ps:List az}{i:Nat}(h:eF Q d n lo hi ps i)(ng:n.keys.length+1=n.kids.length){b8 to:Int}{k:ByteArray}{ga gb:az}(hk:n.kids[i]? =some b8)
 (ha:aN Q d b8 (bX n.keys lo i) k ga)(hb:aN Q d to k (bF n.keys hi i) gb)(ha0:ga.2≠[])(hb0:gb.2≠[]):
 eL Q d {n with keys:=aJ n.keys i k,kids:=aJ n.kids (i+1) to} lo hi (aJ (ps.set i ga) (i+1) gb):=by
 have hil:=(List.getElem?_eq_some_iff.1 hk).1
 have hps:=h.1
 refine⟨by rw[cz,List.length_set];dsimp only;rw[cz,hps],fun j kj p hkj hp=> ?_⟩
 dsimp only at hkj⊢
 rw[lT (by omega)]at hkj
 rw[lT (by rw[List.length_set];omega)]at hp
 have P_:bX (aJ n.keys i k) lo j=if j<=i then bX n.keys lo j else if j=i+1 then k else bX n.keys lo (j-1):=by
  unfold bX
  rw[List.getD_eq_getElem?_getD,lT (by omega)]
  by_cases h1:j<=i
  . rw[if_pos h1]
    by_cases h0:0<j
    . rw[if_pos h0,if_pos h0,if_pos (by omega),List.getD_eq_getElem?_getD]
    . rw[if_neg h0,if_neg h0]
  . rw[if_neg h1,if_pos (by omega),if_neg (by omega)]
    by_cases h2:j=i+1
    . rw[if_pos h2,if_pos (by omega)];rfl
    . rw[if_neg h2,if_neg (by omega),if_pos (by omega),List.getD_eq_getElem?_getD]
 have M9:bF (aJ n.keys i k) hi j=if j<i then bF n.keys hi j else if j=i then k else bF n.keys hi (j-1):=by
  unfold bF
  rw[List.getD_eq_getElem?_getD,lT (by omega),cz]
  by_cases h1:j<i
  . rw[if_pos h1,if_pos (by omega),if_pos h1,if_pos (by omega),List.getD_eq_getElem?_getD]
  . rw[if_neg h1,if_neg h1]
    by_cases h2:j=i
    . rw[if_pos h2,if_pos h2,if_pos (by omega)];rfl
    . rw[if_neg h2,if_neg h2]
      by_cases h3:j-1<n.keys.length
      . rw[if_pos (by omega),if_pos h3,List.getD_eq_getElem?_getD]
      . rw[if_neg (by omega),if_neg h3]
 rw[P_,M9]
 rcases Nat.lt_trichotomy j i with h1|h1|h1
 . rw[if_pos (show j<i+1 by omega)]at hkj hp
   rw[List.getElem?_set_ne (by omega)]at hp
   rw[if_pos (show j<=i by omega),if_pos h1]
   exact h.2 j kj p (by omega) hkj hp
 . subst h1
   rw[if_pos (show j<j+1 by omega)]at hkj hp
   rw[List.getElem?_set_self (by omega)]at hp
   rw[hk]at hkj;injection hkj with hkj;subst hkj
   injection hp with hp;subst hp
   rw[if_pos (Nat.le_refl _),if_neg (Nat.lt_irrefl _),if_pos rfl]
   exact⟨ha,ha0⟩
 . rw[if_neg (show¬j<=i by omega),if_neg (show¬j<i by omega),if_neg (show¬j=i by omega)]
   by_cases h2:j=i+1
   . rw[if_neg (show¬j<i+1 by omega),if_pos h2]at hkj hp
     injection hkj with hkj;subst hkj
     injection hp with hp;subst hp
     rw[if_pos h2,show j-1=i by omega]
     exact⟨hb,hb0⟩
   . rw[if_neg (show¬j<i+1 by omega),if_neg h2]at hkj hp
     rw[List.getElem?_set_ne (by omega)]at hp
     rw[if_neg h2]
     exact h.2 (j-1) kj p (by omega) hkj hp
end Go.Pl
end
section
namespace Go.Pl
open Go Go.Sx
section
variable{α β:Type}
theorem eZ{ps:List α}{f:α->List β}{i:Nat}{p:α}(hp:ps[i]? =some p):ps.flatMap f=(ps.take i).flatMap f++(f p++(ps.drop (i+1)).flatMap f):=by
 obtain⟨hlt,rfl⟩:=List.getElem?_eq_some_iff.1 hp
 conv=>lhs;rw[<-List.take_append_drop i ps,List.drop_eq_getElem_cons hlt]
 rw[List.flatMap_append,List.flatMap_cons]
theorem gT{ps:List α}{f:α->List β}{i:Nat}{q:α}(hi:i<ps.length):(ps.set i q).flatMap f=(ps.take i).flatMap f++(f q++(ps.drop (i+1)).flatMap f):=by
 rw[List.set_eq_take_append_cons_drop,if_pos hi,List.flatMap_append,List.flatMap_cons]
theorem w6{ps:List α}{f:α->List β}{i:Nat}{a b:α}(hi:i<ps.length):(aJ (ps.set i a) (i+1) b).flatMap f=(ps.take i).flatMap f++((f a++f b)++(ps.drop (i+1)).flatMap f):=by
 have h1:(ps.set i a).take (i+1)=ps.take i++[a]:=by
  rw[List.set_eq_take_append_cons_drop,if_pos hi,List.take_append,List.length_take,Nat.min_eq_left (by omega),List.take_of_length_le (by rw[List.length_take];omega),show i+1-i=1 by omega];rfl
 have h2:(ps.set i a).drop (i+1)=ps.drop (i+1):=by rw[List.drop_set_of_lt (by omega)]
 unfold aJ
 rw[h1,h2,List.flatMap_append,List.flatMap_append,List.flatMap_cons]
 simp
theorem tr{a p q b:List α}(h:(a++(p++b)).Nodup)(hq:q.Nodup)(hn:∀m∈q,m∈p\/m∉a++(p++b)):(a++(q++b)).Nodup:=by
 obtain⟨h1,h2,h3⟩:=List.nodup_append.1 h
 obtain⟨h4,h5,h6⟩:=List.nodup_append.1 h2
 refine List.nodup_append.2 ⟨h1,List.nodup_append.2 ⟨hq,h5,fun x hx y hy e=> ?_⟩,fun x hx y hy e=> ?_⟩
 . subst e
   rcases hn x hx with h|h
   . exact h6 x h x hy rfl
   . exact h (by simp[hy])
 . subst e
   rcases List.mem_append.1 hy with hy|hy
   . rcases hn x hy with h|h
     . exact h3 x hx x (by simp[h]) rfl
     . exact h (by simp[hx])
   . exact h3 x hx x (by simp[hy]) rfl
end
theorem iS.mid{x:Cell}{a p q b:List Cell}(h:iS x p q)(ha:∀c∈a,c.key≠x.key)(hb:∀c∈b,c.key≠x.key):iS x (a++(p++b)) (a++(q++b)):=by
 intro c
 have:=h c
 simp only[List.mem_append]
 constructor
 . rintro(h1|h1|h1)
   . exact .inr ⟨.inl h1,ha c h1⟩
   . rcases this.1 h1 with h2|⟨h2,h3⟩
     . exact .inl h2
     . exact .inr ⟨.inr (.inl h2),h3⟩
   . exact .inr ⟨.inr (.inr h1),hb c h1⟩
 . rintro(h1|⟨h1|h1|h1,h2⟩)
   . exact .inr (.inl (this.2 (.inl h1)))
   . exact .inl h1
   . exact .inr (.inl (this.2 (.inr ⟨h1,h2⟩)))
   . exact .inr (.inr h1)
theorem BD.mid{Q Q1:ah}{r:Int}{u:Int->Prop}{k:Nat}{p q a b:List Int}(h:BD Q Q1 r u k p q)(hu:∀m∈a++(p++b),u m)(hn:(a++(p++b)).Nodup):
 BD Q Q1 r u k (a++(p++b)) (a++(q++b))/\(∀m,(m∈a\/m∈b)->av m->Q1 m=Q m):=by
 have hnew:∀m∈q,m∈p\/m∉a++(p++b):=fun m hm=>(h.new m hm).imp id fun h2 h3=>h2 (hu m h3)
 refine⟨⟨h.fst.iff fun m=> ?_,tr hn h.nodup hnew,fun m hm=> ?_,fun m hm=> ?_,?_,fun m h1 h2=>h.rest m h1 fun h3=>h2 (by simp[h3])⟩,fun m hm Ut=> ?_⟩
 . simp only[List.mem_append]
   constructor
   . rintro(h1|h1)
     . exact .inl h1
     . exact .inr (.inr (.inl h1))
   . rintro(h1|h1|h1|h1)
     . exact .inl h1
     . exact .inl (hu m (by simp[h1]))
     . exact .inr h1
     . exact .inl (hu m (by simp[h1]))
 . simp only[List.mem_append]at hm⊢
   rcases hm with h1|h1|h1
   . exact .inl h1
   . exact .inr (.inl (h.old m h1))
   . exact .inr (.inr h1)
 . simp only[List.mem_append]at hm⊢
   rcases hm with h1|h1|h1
   . exact .inl (.inl h1)
   . rcases h.new m h1 with h2|h2
     . exact .inl (.inr (.inl h2))
     . exact .inr h2
   . exact .inl (.inr (.inr h1))
 . have:=h.j7;simp only[List.length_append];omega
 . have h1:m≠1:=by unfold av at Ut;omega
   refine h.rest m h1 fun h3=> ?_
   obtain⟨n1,n2,n3⟩:=List.nodup_append.1 hn
   obtain⟨n4,n5,n6⟩:=List.nodup_append.1 n2
   rcases hnew m h3 with h4|h4
   . rcases hm with h5|h5
     . exact n3 m h5 m (by simp[h4]) rfl
     . exact n6 m h4 m h5 rfl
   . exact h4 (by rcases hm with h5|h5<;>simp[h5])
end Go.Pl
end
section
namespace Go.Pl
open Go Go.Sx
theorem eL.other{Q:ah}{d:Nat}{n:Nd}{lo hi:ByteArray}{ps:List az}(h:eL Q d n lo hi ps)(hm:cQ n)(hl:n.leaf=false){k:ByteArray}(hk:bu k lo hi=true){j:Nat}{q:az}(hj:j≠bM n.keys k)(hq:ps[j]? =some q):∀c∈q.2,c.key≠k:=by
 obtain⟨_,hmk,qh,_,_,_,ng⟩:=(aS hl).1 hm
 have hne:∀k∈n.keys,k≠⟨#[]⟩:=fun k hk=>(iH (hmk k hk)).2
 intro c hc e
 have hin:=qZ qh hk
 have hil:=gA n.keys k
 have hjl:=(List.getElem?_eq_some_iff.1 hq).1
 have hcin:=(h.ordered hq).1.2 c hc
 rw[e]at hcin
 have vO:=h.1
 rcases Nat.lt_or_gt_of_ne hj with h|h
 . exact qt qh hne h (by omega) hcin hin
 . exact qt qh hne h (by omega) hin hcin
theorem eR{α:Type}{ps:List α}{i:Nat}{q:α}(h:q∈ps.take i):∃j,j<i/\ps[j]? =some q:=by
 obtain⟨j,hj⟩:=List.getElem?_of_mem h
 have hji:j<i:=by have:=(List.getElem?_eq_some_iff.1 hj).1;rw[List.length_take]at this;omega
 exact⟨j,hji,by rw[List.getElem?_take_of_lt hji]at hj;exact hj⟩
theorem eS{α:Type}{ps:List α}{i:Nat}{q:α}(h:q∈ps.drop i):∃j,i<=j/\ps[j]? =some q:=by
 obtain⟨j,hj⟩:=List.getElem?_of_mem h
 rw[List.getElem?_drop]at hj
 exact⟨i+j,by omega,hj⟩
theorem lB{α:Type}[DecidableEq α]:∀{a b:List α},a.Nodup->(∀x∈a,x∈b)->a.length<=b.length:=by
 intro a
 induction a with
 |nil=>intro b _ _;simp
 |cons x a ih=>
  intro b hn hs
  obtain⟨h1,h2⟩:=List.nodup_cons.1 hn
  have hx:=hs x (by simp)
  have:=ih (b:=b.erase x) h2 fun y hy=>by
   have OS:y≠x:=fun e=>h1 (e▸hy)
   exact(List.mem_erase_of_ne OS).2 (hs y (by simp[hy]))
  rw[List.length_erase_of_mem hx]at this
  have hpos:0<b.length:=List.length_pos_of_mem hx
  simp only[List.length_cons];omega
def uses:List Int:=(List.range 30).map fun i=>((i+2:Nat):Int)
theorem w8:uses.length=30:=by unfold uses;simp
theorem Fe{m:Int}(h:av m):m∈uses:=by
 obtain⟨n,rfl,h1,h2⟩:=jz h
 exact List.mem_map.2 ⟨n-2,List.mem_range.2 (by omega),by omega⟩
theorem qw{l:List Int}(hn:l.Nodup)(h:∀m∈l,av m):l.length<=30:=by
 have:=lB hn fun m hm=>Fe (h m hm)
 rw[w8]at this;exact this
theorem z2{l:List ByteArray}(hr:rising l){i:Nat}{k:ByteArray}(hi:i<=l.length)(h1:∀a,0<i->l[i-1]? =some a->bY a k=true)(h2:∀b,l[i]? =some b->bY k b=true):rising (aJ l i k):=by
 have hlo:∀a∈l.take i,bY a k=true:=fun a ha=>by
  obtain⟨j,hj,Lo⟩:=eR ha
  obtain⟨b,hb⟩:∃b,l[i-1]? =some b:=⟨_,List.getElem?_eq_getElem (by omega)⟩
  by_cases e:j=i-1
  . subst e;exact h1 a (by omega) Lo
  . exact bB (ey hr (by omega) Lo hb) (h1 b (by omega) hb)
 have hhi:∀a∈l.drop i,bY k a=true:=fun a ha=>by
  obtain⟨j,hj,Lo⟩:=eS ha
  by_cases e:j=i
  . subst e;exact h2 a Lo
  . obtain⟨b,hb⟩:∃b,l[i]? =some b:=⟨_,List.getElem?_eq_getElem (by have:=(List.getElem?_eq_some_iff.1 Lo).1;omega)⟩
    exact bB (h2 b hb) (ey hr (by omega) hb Lo)
 unfold aJ
 refine List.pairwise_append.2 ⟨hr.sublist (List.take_sublist _ _),List.pairwise_cons.2 ⟨hhi,hr.sublist (List.drop_sublist _ _)⟩,fun a ha b hb=> ?_⟩
 rcases List.mem_cons.1 hb with rfl|hb
 . exact hlo a ha
 . exact bB (hlo a ha) (hhi b hb)
theorem z6{ps:List az}(h:∀p∈ps,p.1≠[]):ps.length<=(ps.flatMap Prod.fst).length:=by
 induction ps with
 |nil=>simp
 |cons p ps ih=>
  have h1:=List.length_pos_iff.2 (h p (by simp))
  have h2:=ih fun q hq=>h q (by simp[hq])
  simp only[List.flatMap_cons,List.length_append,List.length_cons];omega
theorem eL.HR{Q:ah}{d:Nat}{n:Nd}{lo hi:ByteArray}{ps:List az}(h:eL Q d n lo hi ps):n.kids.length<=(ps.flatMap Prod.fst).length:=by
 rw[<-h.1]
 refine z6 fun p hp=> ?_
 obtain⟨i,hi⟩:=List.getElem?_of_mem hp
 obtain⟨b8,hk⟩:∃b8,n.kids[i]? =some b8:=⟨_,List.getElem?_eq_getElem (by have:=(List.getElem?_eq_some_iff.1 hi).1;have:=h.1;omega)⟩
 obtain⟨l,hl⟩:=(h.2 i b8 p hk hi).1.head
 rw[hl];simp
theorem oZ{b:Nat}:∀{ps:List az},(∀p∈ps,b<=p.1.length)->b*ps.length<=(ps.flatMap Prod.fst).length:=by
 intro ps
 induction ps with
 |nil=>intro _;simp
 |cons p ps ih=>
  intro h
  have h1:=h p (by simp)
  have h2:=ih fun q hq=>h q (by simp[hq])
  simp only[List.flatMap_cons,List.length_append,List.length_cons,Nat.mul_succ];omega
theorem aN.pages{Q:ah}:∀{d:Nat} {no:Int} {lo hi:ByteArray} {g:az},aN Q d no lo hi g->d+1<=g.1.length:=by
 intro d
 induction d with
 |zero=>rintro no lo hi g ⟨n,_,_,_,rfl,_⟩;exact Nat.le_refl _
 |succ d ih=>
  rintro no lo hi g ⟨n,ps,h1,h2,h3,h4,h5,rfl⟩
  obtain⟨_,_,_,_,qC,_,_⟩:=(aS h3).1 h1.1.nd.may
  obtain⟨b8,hk⟩:∃b8,n.kids[0]? =some b8:=⟨_,List.getElem?_eq_getElem (by omega)⟩
  obtain⟨p,hp⟩:∃p,ps[0]? =some p:=⟨_,List.getElem?_eq_getElem (by omega)⟩
  have:=ih (h5 0 b8 p hk hp).1
  have e:=eZ (f:=Prod.fst) hp
  have:=congrArg List.length e
  simp only[List.length_append,List.length_cons]at this⊢
  omega
theorem eL.pages{Q:ah}{d:Nat}{n:Nd}{lo hi:ByteArray}{ps:List az}(h:eL Q d n lo hi ps):(d+1)*n.kids.length<=(ps.flatMap Prod.fst).length:=by
 rw[<-h.1]
 refine oZ fun p hp=> ?_
 obtain⟨i,hi⟩:=List.getElem?_of_mem hp
 obtain⟨b8,hk⟩:∃b8,n.kids[i]? =some b8:=⟨_,List.getElem?_eq_getElem (by have:=(List.getElem?_eq_some_iff.1 hi).1;have:=h.1;omega)⟩
 exact(h.2 i b8 p hk hi).1.pages
theorem eL.full{Q:ah}{d:Nat}{n:Nd}{lo hi:ByteArray}{ps:List az}(h:eL Q d n lo hi ps)(h0:0<n.kids.length):ps.flatMap Prod.snd≠[]:=by
 obtain⟨p,hp⟩:∃p,ps[0]? =some p:=⟨_,List.getElem?_eq_getElem (by have:=h.1;omega)⟩
 obtain⟨c,hc⟩:=List.exists_mem_of_ne_nil _ (h.ordered hp).2
 exact List.ne_nil_of_mem (List.mem_flatMap.2 ⟨p,List.mem_of_getElem? hp,hc⟩)
theorem GM{Q:ah}{r:Int}{u:Int->Prop}{d f:Nat}{no:Int}{lo hi:ByteArray}{n:Nd}{ps:List az}{x:Cell}{i:Nat}{b8:Int}{p:az}(hF:iX Q r u)(hu:∀m∈(wg no ps).1,u m)(hn:(wg no ps).1.Nodup)
 (hp:bz (Q no) n)(hl:n.leaf=false)(hw:eL Q d n lo hi ps)(l6:bu x.key lo hi=true)(IP:i=bM n.keys x.key)(hk:n.kids[i]? =some b8)(C3:ps[i]? =some p)
 (hg:Grown Q r u d b8 (bX n.keys lo i) (bF n.keys hi i) p x (bI x f Q b8)):Grown Q r u (d+1) no lo hi (wg no ps) x (bI x (f+1) Q no):=by
 have hno:=hF.may (hu no (by simp[wg]))
 have lp:no≠1:=by unfold av at hno;omega
 have hrd:=dL hno hp
 have hmn:=hp.1.nd.may
 obtain⟨hc0,hmk,qh,vY,qC,Qa,ng⟩:=(aS hl).1 hmn
 have hgd:n.kids.getD (bM n.keys x.key) 0=b8:=by rw[<-IP,List.getD_eq_getElem?_getD,hk];rfl
 have hil:i<ps.length:=(List.getElem?_eq_some_iff.1 C3).1
 have e1:(wg no ps).1=(no::(ps.take i).flatMap Prod.fst)++(p.1++(ps.drop (i+1)).flatMap Prod.fst):=by show no::ps.flatMap Prod.fst=_;rw[eZ C3];rfl
 have e2:(wg no ps).2=(ps.take i).flatMap Prod.snd++(p.2++(ps.drop (i+1)).flatMap Prod.snd):=eZ C3
 have RG:∀m∈(no::(ps.take i).flatMap Prod.fst)++(p.1++(ps.drop (i+1)).flatMap Prod.fst),u m:=by rw[<-e1];exact hu
 have hna:((no::(ps.take i).flatMap Prod.fst)++(p.1++(ps.drop (i+1)).flatMap Prod.fst)).Nodup:=by rw[<-e1];exact hn
 have hka:∀c∈(ps.take i).flatMap Prod.snd,c.key≠x.key:=fun c hc=>by
  obtain⟨q,hq,vg⟩:=List.mem_flatMap.1 hc
  obtain⟨j,hj,vQ⟩:=eR hq
  exact hw.other hmn hl l6 (by omega) vQ c vg
 have C4:∀c∈(ps.drop (i+1)).flatMap Prod.snd,c.key≠x.key:=fun c hc=>by
  obtain⟨q,hq,vg⟩:=List.mem_flatMap.1 hc
  obtain⟨j,hj,vQ⟩:=eS hq
  exact hw.other hmn hl l6 (by omega) vQ c vg
 have gu:∀(j:Nat) (q:az),j≠i->ps[j]? =some q->∀m∈q.1,(m∈no::(ps.take i).flatMap Prod.fst\/m∈(ps.drop (i+1)).flatMap Prod.fst)/\av m:=fun j q hj hq m hm=>by
  refine⟨?_,hF.may (hu m (List.mem_cons_of_mem _ (List.mem_flatMap.2 ⟨q,List.mem_of_getElem? hq,hm⟩)))⟩
  rcases Nat.lt_or_gt_of_ne hj with h|h
  . exact .inl (List.mem_cons_of_mem _ (List.mem_flatMap.2 ⟨q,List.mem_of_getElem? (i:=j) (by rw[List.getElem?_take_of_lt h];exact hq),hm⟩))
  . exact .inr (List.mem_flatMap.2 ⟨q,List.mem_of_getElem? (i:=j-(i+1)) (by rw[List.getElem?_drop,show i+1+(j-(i+1))=j by omega];exact hq),hm⟩)
 rcases hg with⟨Q1,q,hres,hT,hP,hS,_⟩|⟨Q1,k,to,ga,gb,hres,hto,Ol,Om,Jr,ha0,hb0,hP,hS,k_⟩|⟨hres,l,Uu,hfull,_⟩
 .
  rw[fP hrd hl (by rw[hgd];exact hres) rfl]
  obtain⟨hU,hfr⟩:=hS.mid RG hna
  have ud:Q1 no=Q no:=hfr no (.inl (by simp)) hno
  have FV:q.2≠[]:=by
   intro e
   have:=(hP x).2 (.inl rfl);rw[e]at this;cases this
  have hW:=eF.set (hw.but fun j q hj hq m hm=>hfr m (gu j q hj hq m hm).1 (gu j q hj hq m hm).2) hk hT FV
  refine .inl ⟨Q1,wg no (ps.set i q),rfl,aN.ways (by rw[ud];exact hp) hno hl hW,?_,?_⟩
  . rw[e2];show iS x _ ((ps.set i q).flatMap Prod.snd);rw[gT hil];exact hP.mid hka C4
  . refine⟨?_,fun _ n1 n2 h1 h2=> .inl (by rw[ud]at h2;rw[cP h1 h2];exact Nat.le_refl _)⟩
    rw[e1];show BD Q Q1 r u (d+1) _ (no::(ps.set i q).flatMap Prod.fst);rw[gT hil]
    exact⟨hU.fst,hU.nodup,hU.old,hU.new,by have:=hU.j7;simp only[List.cons_append]at this⊢;omega,hU.rest⟩
 .
  have Js:to≠0:=by unfold av at hto;omega
  rw[kV hrd hl (by rw[hgd];exact hres) Js]
  obtain⟨hU,hfr⟩:=hS.mid RG hna
  rw[<-IP]
  have hW:=eF.two (hw.but fun j q hj hq m hm=>hfr m (gu j q hj hq m hm).1 (gu j q hj hq m hm).2) ng hk Ol Om ha0 hb0
  have f1:(aJ (ps.set i ga) (i+1) gb).flatMap Prod.fst=(ps.take i).flatMap Prod.fst++((ga.1++gb.1)++(ps.drop (i+1)).flatMap Prod.fst):=w6 hil
  have f2:(aJ (ps.set i ga) (i+1) gb).flatMap Prod.snd=(ps.take i).flatMap Prod.snd++((ga.2++gb.2)++(ps.drop (i+1)).flatMap Prod.snd):=w6 hil
  have FJ:=hP.mid hka C4
  rw[<-f2]at FJ
  rw[<-e2]at FJ
  have f3:(no::(ps.take i).flatMap Prod.fst)++((ga.1++gb.1)++(ps.drop (i+1)).flatMap Prod.fst)=no::(aJ (ps.set i ga) (i+1) gb).flatMap Prod.fst:=by rw[f1];rfl
  rw[f3,<-e1]at hU
  generalize aJ (ps.set i ga) (i+1) gb=ps2 at*
  have HU:∀m∈no::ps2.flatMap Prod.fst,av m:=fun m hm=>hU.fst.may (.inr hm)
  have RH:=qw hU.nodup HU
  have Uv:=hW.HR
  have VL:(aJ n.kids (i+1) to).length<=29:=by
   have:(aJ n.kids (i+1) to).length<=(ps2.flatMap Prod.fst).length:=Uv
   simp only[List.length_cons]at RH;omega
  have VM:=(List.getElem?_eq_some_iff.1 hk).1
  have Qc:cQ {n with keys:=aJ n.keys i k,kids:=aJ n.kids (i+1) to}:=by
   refine(aS (n:={n with keys:=aJ n.keys i k,kids:=aJ n.kids (i+1) to}) hl).2 ⟨hc0,fun y hy=> ?_,?_,fun y hy=> ?_,?_,(show(aJ n.kids (i+1) to).length<=32 by omega),?_⟩
   . rcases lN hy with rfl|hy
     . exact Jr
     . exact hmk y hy
   . refine z2 qh (by omega) (fun a h0 ha=> ?_) fun b hb=> ?_
     . obtain⟨c,hc⟩:=List.exists_mem_of_ne_nil _ ha0
       obtain⟨h1,h2⟩:=cF.1 (Ol.ordered.2 c hc)
       rw[uO h0 ha]at h1
       exact zb h1 (h2.resolve_left (iH Jr).2)
     . obtain⟨c,hc⟩:=List.exists_mem_of_ne_nil _ hb0
       obtain⟨h1,h2⟩:=cF.1 (Om.ordered.2 c hc)
       rw[nU (List.getElem?_eq_some_iff.1 hb).1 hb]at h2
       exact zb h1 (h2.resolve_left (iH (hmk b (List.mem_of_getElem? hb))).2)
   . rcases lN hy with rfl|hy
     . exact hto
     . exact vY y hy
   . show 1<=(aJ n.kids (i+1) to).length;rw[cz];omega
   . show(aJ n.keys i k).length+1=(aJ n.kids (i+1) to).length;rw[cz,cz];omega
  have Ed:∀p∈ps2,∀m∈p.1,m≠no:=fun p hp m hm e=>(List.nodup_cons.1 hU.nodup).1 (by rw[<-e];exact List.mem_flatMap.2 ⟨p,hp,hm⟩)
  by_cases hf:Fits {n with keys:=aJ n.keys i k,kids:=aJ n.kids (i+1) to}
  . rw[nR hf]
    refine .inl ⟨_,wg no ps2,rfl,aN.ways (dY (n:={n with keys:=aJ n.keys i k,kids:=aJ n.kids (i+1) to}) ⟨hf,fun c hc=>by rw[show({n with keys:=aJ n.keys i k,kids:=aJ n.kids (i+1) to}:Nd).cells=[]from hc0]at hc;cases hc⟩) hno hl (hW.frame fun p hp m hm=>bQ (Ed p hp m hm)),FJ,?_⟩
    refine⟨⟨hU.fst.other (bQ (Ne.symm lp)),hU.nodup,hU.old,hU.new,hU.j7,fun m h1 h2=>by rw[bQ fun e=>h2 (by rw[e];simp[wg])];exact hU.rest m h1 h2⟩,fun hd n1 n2 h1 h2=> .inr ?_⟩
    rw[dj]at h2
    have Uw:=cP h2 (n:=n2) (m:={n with keys:=aJ n.keys i k,kids:=aJ n.kids (i+1) to}) ⟨⟨hf,fun c hc=>by rw[show({n with keys:=aJ n.keys i k,kids:=aJ n.kids (i+1) to}:Nd).cells=[]from hc0]at hc;cases hc⟩,rfl⟩
    have Ux:=cP h1 hp
    subst Ux
    refine⟨by rw[Uw];show(aJ n1.kids (i+1) to).length=_;rw[cz],?_⟩
    have WZ:=(k_ (by omega)).1
    have Uy:=oZ (b:=2) (ps:=ps.take i) fun q hq=>by
     obtain⟨j,hj,vQ⟩:=eR hq
     obtain⟨kj,hkj⟩:∃kj,n1.kids[j]? =some kj:=⟨_,List.getElem?_eq_getElem (by have:=hw.1;omega)⟩
     have:=(hw.2 j kj q hkj vQ).1.pages;omega
    have htb:=oZ (b:=2) (ps:=ps.drop (i+1)) fun q hq=>by
     obtain⟨j,hj,vQ⟩:=eS hq
     obtain⟨kj,hkj⟩:∃kj,n1.kids[j]? =some kj:=⟨_,List.getElem?_eq_getElem (by have:=hw.1;have:=(List.getElem?_eq_some_iff.1 vQ).1;omega)⟩
     have:=(hw.2 j kj q hkj vQ).1.pages;omega
    rw[List.length_take]at Uy
    rw[List.length_drop]at htb
    have vO:=hw.1
    rw[e1]
    simp only[List.length_append,List.length_cons]
    omega
  . obtain⟨hb,Ga⟩:=Fb (n:={n with keys:=aJ n.keys i k,kids:=aJ n.kids (i+1) to}) Qc hl (show(aJ n.kids (i+1) to).length<=30 by omega) hf
    have Ga:16<=(aJ n.kids (i+1) to).length:=Ga
    obtain⟨vM,j6,IL,IM⟩:=Be hb
    rcases hU.fst.take with⟨t2,Q2,ht,su,l7,C5,FK⟩|⟨ht,hfull⟩
    . rw[ry hf hb ht]
      have AS:cu {n with keys:=aJ n.keys i k,kids:=aJ n.kids (i+1) to}=(aJ n.kids (i+1) to).length:=by unfold cu;rw[if_neg (by show¬n.leaf=true;rw[hl];simp)]
      rw[AS]at j6
      generalize dW {n with keys:=aJ n.keys i k,kids:=aJ n.kids (i+1) to}=b at*
      rw[gh (n:={n with keys:=aJ n.keys i k,kids:=aJ n.kids (i+1) to}) hl]at IL IM⊢
      dsimp only at IL IM⊢
      have Qd:(aJ n.keys i k).length+1=(aJ n.kids (i+1) to).length:=by rw[cz,cz];omega
      obtain⟨K,hK⟩:∃K,(aJ n.keys i k)[b-1]? =some K:=⟨_,List.getElem?_eq_getElem (by omega)⟩
      have Uz:(aJ n.keys i k).getD (b-1) ⟨#[]⟩=K:=by rw[List.getD_eq_getElem?_getD,hK];rfl
      rw[Uz]
      obtain⟨RI,RJ⟩:=eL.Kk hW Qd vM j6 hK
      have Qe:t2≠1:=by unfold av at su;omega
      have Qf:t2≠no:=fun e=>l7 (.inr (by rw[e];simp))
      have Mr:∀p∈ps2,∀m∈p.1,eW (eW Q2 no (bS ⟨false,[],(aJ n.keys i k).take (b-1),(aJ n.kids (i+1) to).take b⟩).1) t2 (bS ⟨false,[],(aJ n.keys i k).drop b,(aJ n.kids (i+1) to).drop b⟩).1 m=Q1 m:=fun p hp m hm=>by
       have hin:m∈no::ps2.flatMap Prod.fst:=List.mem_cons_of_mem _ (List.mem_flatMap.2 ⟨p,hp,hm⟩)
       have h1:m≠t2:=fun e=>l7 (.inr (e▸hin))
       have h2:=HU m hin
       rw[bQ h1,bQ (Ed p hp m hm),FK m (by unfold av at h2;omega) h1]
      have hmem:∀m,m∈(no::(ps2.take b).flatMap Prod.fst)++(t2::(ps2.drop b).flatMap Prod.fst)↔m=t2\/m∈no::ps2.flatMap Prod.fst:=fun m=>by
       have:ps2.flatMap Prod.fst=(ps2.take b).flatMap Prod.fst++(ps2.drop b).flatMap Prod.fst:=by rw[<-List.flatMap_append,List.take_append_drop]
       rw[this];simp only[List.mem_append,List.mem_cons]
       constructor
       . rintro((h|h)|h|h)
         . exact .inr (.inl h)
         . exact .inr (.inr (.inl h))
         . exact .inl h
         . exact .inr (.inr (.inr h))
       . rintro(h|h|h|h)
         . exact .inr (.inl h)
         . exact .inl (.inl h)
         . exact .inl (.inr h)
         . exact .inr (.inr h)
      have vX:((no::(ps2.take b).flatMap Prod.fst)++(t2::(ps2.drop b).flatMap Prod.fst)).Perm (t2::(no::ps2.flatMap Prod.fst)):=by
       refine List.perm_middle.trans (List.Perm.cons _ (List.Perm.of_eq ?_))
       rw[List.cons_append,<-List.flatMap_append,List.take_append_drop]
      refine .inr (.inl ⟨_,K,t2,wg no (ps2.take b),wg t2 (ps2.drop b),rfl,su,aN.ways ?_ hno rfl (RI.frame fun p hp=>Mr p (List.mem_of_mem_take hp)),aN.ways (dY ⟨IM,fun c hc=>by cases hc⟩) su rfl (RJ.frame fun p hp=>Mr p (List.mem_of_mem_drop hp)),?_,?_,?_,?_,⟨?_,?_,?_,?_,?_,?_⟩,fun _=> ?_⟩)
      . rw[bQ (Ne.symm Qf)];exact dY ⟨IL,fun c hc=>by cases hc⟩
      . rcases lN (List.mem_of_getElem? hK)with rfl|h
        . exact Jr
        . exact hmk K h
      . exact RI.full (by dsimp only;rw[List.length_take];omega)
      . exact RJ.full (by dsimp only;rw[List.length_drop];omega)
      . show iS x _ ((ps2.take b).flatMap Prod.snd++(ps2.drop b).flatMap Prod.snd)
        rw[<-List.flatMap_append,List.take_append_drop];exact FJ
      . refine(C5.other (by rw[bQ (Ne.symm Qe),bQ (Ne.symm lp)])).iff fun m=> ?_
        show _↔u m\/m∈(no::(ps2.take b).flatMap Prod.fst)++(t2::(ps2.drop b).flatMap Prod.fst)
        rw[hmem]
        constructor
        . rintro(h|h|h)
          . exact .inr (.inl h)
          . exact .inl h
          . exact .inr (.inr h)
        . rintro(h|h|h)
          . exact .inr (.inl h)
          . exact .inl h
          . exact .inr (.inr h)
      . exact vX.nodup_iff.2 (List.nodup_cons.2 ⟨fun h=>l7 (.inr h),hU.nodup⟩)
      . intro m hm;exact(hmem m).2 (.inr (hU.old m hm))
      . intro m hm
        rcases(hmem m).1 hm with h|h
        . subst h;exact .inr fun h=>l7 (.inl h)
        . exact hU.new m h
      . have h1:=vX.length_eq
        have h2:=hU.j7
        have h1:((wg no (ps2.take b)).1++(wg t2 (ps2.drop b)).1).length=(t2::(no::ps2.flatMap Prod.fst)).length:=h1
        rw[h1];simp only[List.length_cons]at h2⊢;omega
      . intro m h1 h2
        have h3:=fun h=>h2 ((hmem m).2 h)
        rw[bQ fun e=>h3 (.inl e),bQ fun e=>h3 (.inr (by rw[e];simp)),FK m h1 fun e=>h3 (.inl e)]
        exact hU.rest m h1 fun h=>h3 (.inr h)
      . have h1:=hw.HR
        rw[cz]at Ga
        refine⟨?_,fun n1 h2=>by rw[cP h2 hp];omega⟩
        show 16<=(no::ps.flatMap Prod.fst).length
        simp only[List.length_cons];omega
    . rw[oW hf hb ht]
      refine .inr (.inr ⟨rfl,(no::ps2.flatMap Prod.fst).filter (fun m=>decide (m∉(wg no ps).1)),?_,fun m hm=> ?_,fun _ _ n1 h2=>by rw[cP h2 hp];rw[cz]at Ga;omega⟩)
      . have h1:=lB (a:=(wg no ps).1++(no::ps2.flatMap Prod.fst).filter (fun m=>decide (m∉(wg no ps).1))) (b:=no::ps2.flatMap Prod.fst) ?_ ?_
        . have h2:=hU.j7
          rw[List.length_append]at h1;omega
        . refine List.nodup_append.2 ⟨hn,hU.nodup.sublist List.filter_sublist,fun a ha b hb e=> ?_⟩
          subst e
          exact(of_decide_eq_true (List.mem_filter.1 hb).2) ha
        . intro m hm
          rcases List.mem_append.1 hm with h|h
          . exact hU.old m h
          . exact(List.mem_filter.1 h).1
      . rcases hfull m hm with h|h
        . exact .inl h
        . by_cases h2:m∈(wg no ps).1
          . exact .inl (hu m h2)
          . exact .inr (List.mem_filter.2 ⟨h,decide_eq_true h2⟩)
 .
  rw[gv hrd hl (by rw[hgd];exact hres)]
  exact .inr (.inr ⟨rfl,l,by omega,hfull,fun _ h=>absurd h (by omega)⟩)
theorem aN.insert{x:Cell}(hx:aA x=true)(fR:x.val.f<2^64/\x.new.f<2^64):∀{d:Nat} {no:Int} {lo hi:ByteArray} {g:az} {Q:ah} {r:Int} {u:Int->Prop},aN Q d no lo hi g->iX Q r u->(∀m∈g.1,u m)->g.1.Nodup->bu x.key lo hi=true->
 ∀{f:Nat},d<f->Grown Q r u d no lo hi g x (bI x f Q no):=by
 intro d
 induction d with
 |zero=>
  rintro no lo hi g Q r u ⟨n,h1,h2,h3,rfl,h5⟩ hF hu hn l6 f hf
  obtain⟨f,rfl⟩:∃f',f=f'+1:=⟨f-1,by omega⟩
  rw[gC (dL h2 h1) h3]
  exact z1 hF (hu no (by simp)) h1 h3 h5 hx fR l6
 |succ d ih=>
  rintro no lo hi g Q r u ⟨n,ps,h1,h2,h3,h4,h5,rfl⟩ hF hu hn l6 f hf
  obtain⟨f,rfl⟩:∃f',f=f'+1:=⟨f-1,by omega⟩
  obtain⟨_,_,qh,_,_,_,ng⟩:=(aS h3).1 h1.1.nd.may
  have hil:=gA n.keys x.key
  obtain⟨b8,hk⟩:∃b8,n.kids[bM n.keys x.key]? =some b8:=⟨_,List.getElem?_eq_getElem (by omega)⟩
  obtain⟨p,hp⟩:∃p,ps[bM n.keys x.key]? =some p:=⟨_,List.getElem?_eq_getElem (by omega)⟩
  have hsub:p.1.Sublist (ps.flatMap Prod.fst):=by
   rw[eZ hp]
   exact(List.sublist_append_left _ _).trans (List.sublist_append_right _ _)
  refine GM hF hu hn h1 h3 ⟨h4,h5⟩ l6 rfl hk hp (ih (h5 _ b8 p hk hp).1 hF (fun m hm=>hu m (List.mem_cons_of_mem _ (hsub.subset hm))) ((List.nodup_cons.1 hn).2.sublist hsub) (qZ qh l6) (by omega))
end Go.Pl
end
section
namespace Go.Pl
open Go Go.Sx
abbrev jW:ByteArray:=⟨#[]⟩
def Bf(Q:ah)(d:Nat)(no:Int):Prop:=d<=2/\(d=2->∀n,bz (Q no) n->n.kids.length<=8)
def aL(Q:ah)(g:az):Prop:=
 (iX Q 0 (fun _=>False)/\g=([],[]))\/∃d no,aN Q d no jW jW g/\g.1.Nodup/\iX Q no (fun m=>m∈g.1)/\g.2≠[]/\Bf Q d no
theorem mL{k:ByteArray}:bu k jW jW=true:=cF.2 ⟨A7 k,.inl rfl⟩
theorem aL.rising{Q:ah}{g:az}(h:aL Q g):rising (keysOf g.2):=by
 rcases h with⟨_,rfl⟩|⟨d,no,h,_⟩
 . exact List.Pairwise.nil
 . exact h.ordered.1
theorem aL.fst{Q:ah}{g:az}(h:aL Q g):∃r,iX Q r (fun m=>m∈g.1)/\(r=0\/av r):=by
 rcases h with⟨h,rfl⟩|⟨d,no,h,_,hF,_⟩
 . exact⟨0,h.iff fun m=>by simp,.inl rfl⟩
 . exact⟨no,hF,.inr h.may⟩
theorem aL.all{Q:ah}{g:az}(h:aL Q g):eK (aI Q)= .ok g:=by
 rcases h with⟨h,rfl⟩|⟨d,no,h,hn,hF,_,gF⟩
 . exact lR (h.b7 (.inl rfl)) rfl
 . have hm:=h.may
   rw[nK (hF.b7 (.inr hm)) (by unfold av at hm;omega)]
   have:=h.through (f:=32) (st:=([],[])) (by have:=gF.1;omega) (by simpa using hn) (by
    have:=qw hn fun m hm=>hF.may hm
    simp only[List.nil_append];omega)
   simpa using this
theorem aL.check{Q:ah}{g:az}(h:aL Q g):dD (aI Q)= .ok ():=by
 obtain⟨r,hF,_⟩:=h.fst
 have h1:aI Q 1=(0,Q 1):=by unfold aI;rw[if_pos (by decide)]
 have hw:aX (aI Q 1)=(0,Q 1):=by rw[h1];unfold aX;rw[if_neg (by simp),if_neg (by dsimp only;rw[hF.len];simp)]
 have M_:zh (aX (aI Q 1)).2 g 32:=fun no _=>by
  rw[hw]
  have:=hF.bit (no:Nat)
  cases hb:hasB (Q 1) (no:Nat)with
  |true=>exact(decide_eq_true (this.1 hb)).symm
  |false=>exact(decide_eq_false fun e=>by rw[this.2 e]at hb;cases hb).symm
 have ho:∃d,gQ (aI Q) g= .ok d:=by
  rcases h with⟨_,rfl⟩|⟨d,no,h,hn,hF,hne,gF⟩
  . exact⟨0,r9 rfl⟩
  . obtain⟨l,hl⟩:=h.head
    refine⟨d,?_⟩
    rw[kY (by rw[hl];simp),show g.1.getD 0 0=no by rw[hl];rfl]
    exact h.check (by have:=gF.1;omega) (.inl rfl)
 obtain⟨d,ho⟩:=ho
 exact qd h.all ho (by rw[hw]) M_
theorem aL.get{Q:ah}{g:az}(h:aL Q g)(k:ByteArray):∃o,getTop (aI Q) k= .ok o/\Found g.2 k o:=by
 rcases h with⟨h,rfl⟩|⟨d,no,h,hn,hF,_,gF⟩
 . exact⟨none,by rw[oY (h.b7 (.inl rfl))];exact tg rfl,fun c hc=>by cases hc⟩
 . rw[oY (hF.b7 (.inr h.may))]
   exact h.get (by have:=gF.1;omega) mL
theorem Ch{Q:ah}(h:iX Q 0 (fun _=>False)){x:Cell}(hx:aA x=true)(fR:x.val.f<2^64/\x.new.f<2^64):∃Q' n,dA Q x= .ok Q'/\aL Q' ([n],[x])/\(∀m,m≠1->m≠n->Q' m=Q m):=by
 rw[jF (h.b7 (.inl rfl)) rfl]
 rcases h.take with⟨n,Q1,ht,hn,_,hF,hQ⟩|⟨_,hf⟩
 . have On:n≠1:=by unfold av at hn;omega
   have hfit:Fits ⟨true,[x],[],[]⟩:=by
    refine⟨(b5 rfl).2 ⟨rfl,rfl,fun c hc=>by rw[List.mem_singleton]at hc;subst hc;exact hx,List.pairwise_singleton _ _⟩,?_⟩
    have:=fX hx
    rw[fm rfl];dsimp only
    rw[di (by simp) (by simp)];simp only[List.flatMap_cons,List.flatMap_nil,List.append_nil];omega
   obtain⟨C5,FK⟩:=hF.set (no:=n) (by unfold av at hn;omega) (by unfold av at hn;omega)
   refine⟨eW (cg Q1 n) n (bS ⟨true,[x],[],[]⟩).1,n,?_,.inr ⟨0,n,⟨⟨true,[x],[],[]⟩,dY ⟨hfit,fun c hc=>by rw[List.mem_singleton]at hc;subst hc;exact fR⟩,hn,rfl,rfl,fun c _=>mL⟩,by simp,?_,by simp,by omega,fun e=>by omega⟩,fun m h1 h2=>by rw[bQ h2,FK m h1,hQ m h1 h2]⟩
   . refine(aK ht).trans ?_
     unfold jo;rw[if_pos (ff.2 hfit)]
   . exact(C5.other (bQ (Ne.symm On))).iff fun m=>by simp
 . exact(hf 2 (by decide)).elim
end Go.Pl
end
section
namespace Go.Pl
open Go Go.Sx
theorem Bg{l:List Int}(h:∀m,av m->m∈l):30<=l.length:=by
 have hn:uses.Nodup:=by unfold uses;decide
 have:=lB hn fun m hm=>h m (by
  obtain⟨i,hi,rfl⟩:=List.mem_map.1 hm
  have:=List.mem_range.1 hi
  unfold av;omega)
 rw[w8]at this;exact this
theorem tu{Q:ah}{no:Int}{lo hi:ByteArray}{g:az}(h:aN Q 0 no lo hi g)(h0:g.2≠[]):g.1.length=1/\g.1.length<=g.2.length:=by
 obtain⟨n,_,_,_,rfl,_⟩:=h
 have:=List.length_pos_iff.2 h0
 exact⟨rfl,this⟩
theorem mY{b:Nat}:∀{ps:List az},(∀p∈ps,p.1.length<=p.2.length+b)->(ps.flatMap Prod.fst).length<=(ps.flatMap Prod.snd).length+b*ps.length
 |[],_=>Nat.le_refl _
 |p::ps,h=>by
  have h1:=h p (by simp)
  have h2:=mY (ps:=ps) fun q hq=>h q (by simp[hq])
  rw[List.flatMap_cons,List.flatMap_cons,List.length_append,List.length_append,List.length_cons,Nat.mul_add];omega
theorem tv{Q:ah}{no:Int}{lo hi:ByteArray}{g:az}(h:aN Q 1 no lo hi g):g.1.length<=g.2.length+1:=by
 obtain⟨n,ps,_,_,_,h4,h5,rfl⟩:=h
 have:=mY (b:=0) (ps:=ps) fun p hp=>by
  obtain⟨i,hi⟩:=List.getElem?_of_mem hp
  obtain⟨b8,hk⟩:∃b8,n.kids[i]? =some b8:=⟨_,List.getElem?_eq_getElem (by have:=(List.getElem?_eq_some_iff.1 hi).1;omega)⟩
  obtain⟨h6,h7⟩:=h5 i b8 p hk hi
  exact(tu h6 h7).2
 simp only[List.length_cons];omega
theorem aN.cells{Q:ah}{d:Nat}{no:Int}{lo hi:ByteArray}{g:az}(h:aN Q d no lo hi g)(h0:g.2≠[]):
 (d=0->g.1.length=1)/\(d=1->g.1.length<=g.2.length+1)/\(d=2->∀n,bz (Q no) n->g.1.length<=g.2.length+n.kids.length+1):=by
 refine⟨fun e=> ?_,fun e=> ?_,fun e n hn=> ?_⟩
 . subst e;exact(tu h h0).1
 . subst e;exact tv h
 . subst e
   obtain⟨n',ps,h1,_,_,h4,h5,rfl⟩:=h
   rw[cP hn h1]
   have:=mY (b:=1) (ps:=ps) fun p hp=>by
    obtain⟨i,hi⟩:=List.getElem?_of_mem hp
    obtain⟨b8,hk⟩:∃b8,n'.kids[i]? =some b8:=⟨_,List.getElem?_eq_getElem (by have:=(List.getElem?_eq_some_iff.1 hi).1;omega)⟩
    exact tv (h5 i b8 p hk hi).1
   simp only[List.length_cons];omega
theorem aL.put{Q:ah}{g:az}(h:aL Q g){x:Cell}(hx:aA x=true)(fR:x.val.f<2^64/\x.new.f<2^64):
 (∃Q' g',dA Q x= .ok Q'/\aL Q' g'/\iS x g.2 g'.2)\/(dA Q x= .error 4/\28<=g.1.length/\20<=g.2.length):=by
 rcases h with⟨hF,rfl⟩|⟨d,no,hT,hn,hF,hne,gF⟩
 . obtain⟨Q',n,h1,h2,_⟩:=Ch hF hx fR
   exact .inl ⟨Q',_,h1,h2,fun c=>by simp⟩
 . have hno:=hT.may
   have h0:no≠0:=by unfold av at hno;omega
   have js:=hF.b7 (.inr hno)
   have RH:=qw hn fun m hm=>hF.may hm
   have hd:=gF.1
   rcases hT.insert hx fR hF (fun m hm=>hm) hn mL (f:=32) (by omega)with⟨Q',g',hres,OW,hP,hS,hk⟩|⟨Q1,k,to,ga,gb,hres,hto,Ol,Om,hmk,ha0,hb0,hP,hS,k_⟩|⟨hres,l,Uu,hfull,Qg⟩
   . refine .inl ⟨Q',g',mT js h0 hres rfl,.inr ⟨d,no,OW,hS.nodup,hS.fst.iff fun m=>⟨fun h=>h.elim (hS.old m) id,.inr⟩,?_,hd,fun e n' hn'=> ?_⟩,hP⟩
     . intro e;have:=(hP x).2 (.inl rfl);rw[e]at this;cases this
     . subst e
       obtain⟨n,ps,hp,_⟩:=hT
       have h8:=gF.2 rfl n hp
       rcases hk (by omega) n n' hp hn' with h|⟨h1,h2⟩<;>omega
   . have OX:d<=1:=by
      refine Nat.le_of_not_lt fun h2=> ?_
      obtain rfl:d=2:=by omega
      obtain⟨n,ps,hp,_⟩:=hT
      have h8:=gF.2 rfl n hp
      have:=(k_ (by omega)).2 n hp
      omega
     have Js:to≠0:=by unfold av at hto;omega
     rw[jG js h0 hres Js]
     rcases hS.fst.take with⟨t,Q2,ht,Oo,l7,C5,FK⟩|⟨ht,hfull⟩
     . have RK:t≠1:=by unfold av at Oo;omega
       have hfit:Fits ⟨false,[],[k],[no,to]⟩:=nV ((aS rfl).2 ⟨rfl,fun y hy=>by rw[List.mem_singleton]at hy;subst hy;exact hmk,List.pairwise_singleton _ _,fun y hy=>by
        rcases List.mem_cons.1 hy with rfl|hy
        . exact hno
        . rw[List.mem_singleton]at hy;subst hy;exact hto,by simp,by simp,by simp⟩) rfl (by simp)
       obtain⟨UA,RL⟩:=(C5.other (Q':=eW Q2 t (bS ⟨false,[],[k],[no,to]⟩).1) (bQ (Ne.symm RK))).set (no:=t) (by unfold av at Oo;omega) (by unfold av at Oo;omega)
       have hfr:∀m∈ga.1++gb.1,cg (eW Q2 t (bS ⟨false,[],[k],[no,to]⟩).1) t m=Q1 m:=fun m hm=>by
        have Lm:m≠t:=fun e=>l7 (.inr (e▸hm))
        have oz:m≠1:=by have:=hS.fst.may (.inr hm);unfold av at this;omega
        rw[RL m oz,bQ Lm,FK m oz Lm]
       have hW:eL (cg (eW Q2 t (bS ⟨false,[],[k],[no,to]⟩).1) t) d ⟨false,[],[k],[no,to]⟩ jW jW [ga,gb]:=by
        refine⟨rfl,fun i b8 p hk hp=> ?_⟩
        match i,hk,hp with
        |0,hk,hp=>injection hk with hk;injection hp with hp;subst hk hp;exact⟨Ol.frame fun m hm=>hfr m (List.mem_append_left _ hm),ha0⟩
        |1,hk,hp=>injection hk with hk;injection hp with hp;subst hk hp;exact⟨Om.frame fun m hm=>hfr m (List.mem_append_right _ hm),hb0⟩
        |i+2,hk,hp=>cases hk
       have C6:bz (cg (eW Q2 t (bS ⟨false,[],[k],[no,to]⟩).1) t t) ⟨false,[],[k],[no,to]⟩:=by rw[RL t RK];exact dY ⟨hfit,fun c hc=>by cases hc⟩
       have e1:(wg t [ga,gb]).1=t::(ga.1++gb.1):=by simp[wg]
       have e2:(wg t [ga,gb]).2=ga.2++gb.2:=by simp[wg]
       refine .inl ⟨_,wg t [ga,gb],(aK ht).trans ((aK (by unfold jo;rw[if_pos (ff.2 hfit)])).trans rfl),.inr ⟨d+1,t,aN.ways C6 Oo rfl hW,?_,?_,?_,by omega,fun e n' hn'=> ?_⟩,by rw[e2];exact hP⟩
       . rw[e1];exact List.nodup_cons.2 ⟨fun h=>l7 (.inr h),hS.nodup⟩
       . rw[e1]
         refine UA.iff fun m=> ?_
         rw[List.mem_cons]
         constructor
         . rintro(h|h|h)
           . exact .inl h
           . exact .inr (hS.old m h)
           . exact .inr h
         . rintro(h|h)
           . exact .inl h
           . exact .inr (.inr h)
       . rw[e2];simp[ha0]
       . rw[cP hn' C6];show[no,to].length<=8;simp
     . refine .inr ⟨(a_ ht),?_⟩
       have h1:=Bg (l:=ga.1++gb.1) fun m hm=>(hfull m hm).elim (hS.old m) id
       have h2:=hS.j7
       have h3:=hT.cells hne
       rcases Nat.lt_or_ge 0 d with h4|h4
       . obtain rfl:d=1:=by omega
         have h5:=h3.2.1 rfl
         exact⟨by omega,by omega⟩
       . obtain rfl:d=0:=by omega
         have h5:=h3.1 rfl
         exact⟨by omega,by omega⟩
   . refine .inr ⟨by rw[lO js h0];exact a_ hres,?_⟩
     have h1:=Bg (l:=g.1++l) fun m hm=>List.mem_append.2 (hfull m hm)
     rw[List.length_append]at h1
     have h3:=hT.cells hne
     rcases Nat.lt_trichotomy d 1 with h4|h4|h4
     . obtain rfl:d=0:=by omega
       have h5:=h3.1 rfl
       exact⟨by omega,by omega⟩
     . subst h4
       have h5:=h3.2.1 rfl
       exact⟨by omega,by omega⟩
     . obtain rfl:d=2:=by omega
       obtain⟨n,ps,hp,_⟩:=hT
       have h8:=gF.2 rfl n hp
       have h5:=h3.2.2 rfl n hp
       have h6:l.length<=1:=by
        refine Nat.le_of_not_lt fun h7=> ?_
        have:=Qg (by omega) (by omega) n hp
        omega
       exact⟨by omega,by omega⟩
end Go.Pl
end
section
namespace Go.Pl
open Go Go.Sx
theorem Ci{cells:List Cell}(hr:rising (keysOf cells)){k:ByteArray}(he:(keysOf cells)[aG (keysOf cells) k]? =some k):rising (keysOf (bH cells (aG (keysOf cells) k)))/\iI k cells (bH cells (aG (keysOf cells) k))/\(bH cells (aG (keysOf cells) k)).length+1=cells.length:=by
 obtain⟨z,m9,yo⟩:=dO he
 have hlt:=(List.getElem?_eq_some_iff.1 m9).1
 have hsub:(bH cells (aG (keysOf cells) k)).Sublist cells:=by
  unfold bH
  conv=>rhs;rw[<-List.take_append_drop (aG (keysOf cells) k) cells]
  exact List.Sublist.append (List.Sublist.refl _) (by rw[show aG (keysOf cells) k+1=aG (keysOf cells) k+1 from rfl,<-List.drop_drop];exact(List.drop_sublist _ _))
 refine⟨?_,fun c=>⟨fun hc=>⟨hsub.subset hc,fun e=> ?_⟩,fun⟨hc,hk⟩=> ?_⟩,?_⟩
 . unfold keysOf;exact hr.sublist (hsub.map _)
 . have UB:=key_inj hr (hsub.subset hc) (List.mem_of_getElem? m9) (e.trans yo.symm)
   subst UB
   unfold bH at hc
   rcases List.mem_append.1 hc with hc|hc
   . obtain⟨j,hj,OY⟩:=eR hc
     have:=ey hr hj (bG OY) (bG m9);rw[aC]at this;cases this
   . obtain⟨j,hj,OY⟩:=eS hc
     have:=ey hr (show aG (keysOf cells) k<j by omega) (bG m9) (bG OY);rw[aC]at this;cases this
 . obtain⟨j,hj⟩:=List.getElem?_of_mem hc
   unfold bH
   rcases Nat.lt_trichotomy j (aG (keysOf cells) k)with h|h|h
   . exact List.mem_append_left _ (List.mem_of_getElem? (i:=j) (by rw[List.getElem?_take_of_lt h];exact hj))
   . subst h;rw[m9]at hj;injection hj with hj;subst hj;exact absurd yo hk
   . exact List.mem_append_right _ (List.mem_of_getElem? (i:=j-(aG (keysOf cells) k+1)) (by rw[List.getElem?_drop,show aG (keysOf cells) k+1+(j-(aG (keysOf cells) k+1))=j by omega];exact hj))
 . unfold bH;rw[List.length_append,List.length_take,List.length_drop];omega
theorem rD{α:Type}{f:α->List UInt8}{a b:List α}(h:a.Sublist b):(a.flatMap f).length<=(b.flatMap f).length:=by
 induction h with
 |slnil=>exact Nat.le_refl _
 |cons x _ ih=>rw[List.flatMap_cons,List.length_append];omega
 |cons_cons x _ ih=>rw[List.flatMap_cons,List.flatMap_cons,List.length_append,List.length_append];omega
theorem Cj{n:Nd}(hf:kC n)(hl:n.leaf=true){cells:List Cell}(hs:cells.Sublist n.cells):kC {n with cells:=cells}:=by
 obtain⟨h1,h2,h3,h4⟩:=(b5 hl).1 hf.nd.may
 have hlen:=fm hl
 have hb:=hf.fits.2
 have hg:=qu (f:=au) (b:=4) (l:=cells) fun c hc=>qv (h3 c (hs.subset hc))
 have hfl:(cells.flatMap au).length<=(n.cells.flatMap au).length:=rD hs
 have hp:=d_ (n.cells.length:Int)
 refine⟨⟨(b5 (n:={n with cells:=cells}) hl).2 ⟨h1,h2,fun c hc=>h3 c (hs.subset hc),h4.sublist (hs.map _)⟩,?_⟩,fun c hc=>hf.fl c (hs.subset hc)⟩
 rw[fm (n:={n with cells:=cells}) hl]
 show 1+(put (cells.length:Int)).length+(cells.flatMap au).length<=256
 rw[di (by omega) (by omega)];omega
end Go.Pl
end
section
namespace Go.Pl
open Go Go.Sx
structure vw(Q Q':ah)(r:Int)(u:Int->Prop)(a b:List Int):Prop where
 fst:iX Q' r (fun m=>u m/\(m∈a->m∈b))
 nodup:b.Nodup
 old:∀m∈b,m∈a
 rest:∀m,m≠1->m∉a->Q' m=Q m
def uy(Q:ah)(r:Int)(u:Int->Prop)(d:Nat)(no:Int)(lo hi:ByteArray)(g:az)(k:ByteArray)(res:TE ((Bool×Bool)×ah)):Prop:=
 (res= .ok ((false,false),Q)/\∀c∈g.2,c.key≠k)\/
 (∃Q' g',res= .ok ((true,false),Q')/\(∃c∈g.2,c.key=k)/\aN Q' d no lo hi g'/\g'.2≠[]/\iI k g.2 g'.2/\vw Q Q' r u g.1 g'.1/\∀n n',bz (Q no) n->bz (Q' no) n'->n'.kids.length<=n.kids.length)\/
 (∃Q',res= .ok ((true,true),Q')/\(∃c∈g.2,c.key=k)/\iI k g.2 []/\vw Q Q' r u g.1 [])
theorem xQ{Q:ah}{r:Int}{u:Int->Prop}{no:Int}{lo hi:ByteArray}{n:Nd}{k:ByteArray}{f:Nat}(hF:iX Q r u)(hu:u no)(hp:bz (Q no) n)(hl:n.leaf=true)(hin:∀c∈n.cells,bu c.key lo hi=true):uy Q r u 0 no lo hi ([no],n.cells) k (bC k (f+1) Q no):=by
 have hno:=hF.may hu
 have lp:no≠1:=by unfold av at hno;omega
 have hrd:=dL hno hp
 have hr:=hp.1.nd.fq
 have e:bC k (f+1) Q no=(bP (aI Q) no).bind fun n=>
  if n.leaf=true then
   if(keysOf n.cells)[aG (keysOf n.cells) k]? =some k then
    (jV Q no {n with cells:=bH n.cells (aG (keysOf n.cells) k)} (n.cells.length-1)).bind fun x=> .ok ((true,x.1),x.2)
   else .ok ((false,false),Q)
  else(bC k f Q (n.kids.getD (bM n.keys k) 0)).bind fun x=>
   if x.1.2=false then .ok ((x.1.1,false),x.2)
   else(jV x.2 no {n with keys:=if 0<n.keys.length then bH n.keys (bM n.keys k-1)else n.keys,kids:=bH n.kids (bM n.keys k)} (n.kids.length-1)).bind fun y=> .ok ((x.1.1,y.1),y.2):=rfl
 rw[e,show(bP (aI Q) no).bind _=_ from aK hrd,if_pos hl]
 by_cases he:(keysOf n.cells)[aG (keysOf n.cells) k]? =some k
 . rw[if_pos he]
   obtain⟨h1,h2,h3⟩:=Ci hr he
   obtain⟨z,m9,yo⟩:=dO he
   have hex:∃c∈n.cells,c.key=k:=⟨z,List.mem_of_getElem? m9,yo⟩
   by_cases pG:n.cells.length-1=0
   . obtain⟨Q',hfr,OZ,O0⟩:=hF.free hu
     have Qh:bH n.cells (aG (keysOf n.cells) k)=[]:=List.length_eq_zero_iff.1 (by omega)
     rw[Qh]at h2
     refine .inr (.inr ⟨Q',?_,hex,h2,⟨OZ.iff fun m=>⟨fun h=>⟨h.1,fun h4=>absurd (List.mem_singleton.1 h4) h.2⟩,fun h=>⟨h.1,fun h4=>by have:=h.2 (by rw[h4];simp);cases this⟩⟩,by simp,fun m hm=>(by cases hm),fun m h4 _=>O0 m h4⟩⟩)
     rw[jD pG,hfr];rfl
   . have hsub:(bH n.cells (aG (keysOf n.cells) k)).Sublist n.cells:=by
      unfold bH
      conv=>rhs;rw[<-List.take_append_drop (aG (keysOf n.cells) k) n.cells]
      exact List.Sublist.append (List.Sublist.refl _) (by rw[<-List.drop_drop];exact(List.drop_sublist _ _))
     have hfit:=Cj hp.1 hl hsub
     refine .inr (.inl ⟨eW Q no (bS {n with cells:=bH n.cells (aG (keysOf n.cells) k)}).1,([no],bH n.cells (aG (keysOf n.cells) k)),?_,hex,⟨{n with cells:=bH n.cells (aG (keysOf n.cells) k)},dY hfit,hno,hl,rfl,fun c hc=>hin c (hsub.subset hc)⟩,?_,h2,⟨(hF.other (bQ (Ne.symm lp))).iff fun m=>⟨fun h=>⟨h,id⟩,fun h=>h.1⟩,by simp,fun m hm=>hm,fun m h4 h5=>bQ fun e=>h5 (by rw[e];simp)⟩,fun n1 n2 g1 g2=> ?_⟩)
     . rw[jE pG,show jo Q no {n with cells:=bH n.cells (aG (keysOf n.cells) k)}= .ok (eW Q no (bS {n with cells:=bH n.cells (aG (keysOf n.cells) k)}).1) by unfold jo;rw[if_pos (ff.2 hfit.fits)]];rfl
     . intro e;have:=congrArg List.length e;simp only[List.length_nil]at this;omega
     . rw[dj]at g2
       rw[cP g1 hp,cP (m:={n with cells:=bH n.cells (aG (keysOf n.cells) k)}) g2 ⟨hfit,rfl⟩];exact Nat.le_refl _
 . rw[if_neg he]
   refine .inl ⟨rfl,fun c hc e=> ?_⟩
   have:=mX hr k
   rw[iD he]at this
   exact this c hc e
end Go.Pl
end
section
namespace Go.Pl
open Go Go.Sx
theorem gK{α:Type}{l:List α}{i:Nat}(hi:i<l.length)(j:Nat):(bH l i)[j]? =if j<i then l[j]?else l[j+1]? :=by
 unfold bH
 by_cases h:j<i
 . rw[if_pos h,List.getElem?_append_left (by rw[List.length_take];omega),List.getElem?_take_of_lt h]
 . rw[if_neg h,List.getElem?_append_right (by rw[List.length_take];omega),List.length_take,Nat.min_eq_left (by omega),List.getElem?_drop,show i+1+(j-i)=j+1 by omega]
theorem tw{α:Type}(l:List α)(i:Nat):(bH l i).Sublist l:=by
 unfold bH
 conv=>rhs;rw[<-List.take_append_drop i l]
 exact List.Sublist.append (List.Sublist.refl _) (by rw[<-List.drop_drop];exact(List.drop_sublist _ _))
theorem w9{α β:Type}{ps:List α}{f:α->List β}{i:Nat}:(bH ps i).flatMap f=(ps.take i).flatMap f++(ps.drop (i+1)).flatMap f:=by
 unfold bH;rw[List.flatMap_append]
theorem Bh{l:List ByteArray}(h:∀k∈l,k≠⟨#[]⟩){i:Nat}(hi:i<l.length):l.getD i ⟨#[]⟩≠⟨#[]⟩:=by
 rw[List.getD_eq_getElem?_getD,List.getElem?_eq_getElem hi];exact h _ (List.getElem_mem hi)
theorem aN.HV{Q:ah}:∀{d:Nat} {no:Int} {lo hi lo' hi':ByteArray} {g:az},aN Q d no lo hi g->(∀k,bY k lo=false->bY k lo'=false)->(∀k,(hi=⟨#[]⟩\/bY k hi=true)->hi'=⟨#[]⟩\/bY k hi'=true)->aN Q d no lo' hi' g:=by
 intro d
 induction d with
 |zero=>
  rintro no lo hi lo' hi' g ⟨n,h1,h2,h3,h4,h5⟩ hL hH
  refine⟨n,h1,h2,h3,h4,fun c hc=> ?_⟩
  obtain⟨h6,h7⟩:=cF.1 (h5 c hc)
  exact cF.2 ⟨hL _ h6,hH _ h7⟩
 |succ d ih=>
  rintro no lo hi lo' hi' g ⟨n,ps,h1,h2,h3,h4,h5,h6⟩ hL hH
  refine⟨n,ps,h1,h2,h3,h4,fun i b8 p hk hp=> ?_,h6⟩
  obtain⟨h7,h8⟩:=h5 i b8 p hk hp
  refine⟨ih h7 (fun k hk=> ?_) (fun k hk=> ?_),h8⟩
  . unfold bX at hk⊢
    by_cases h0:0<i
    . rw[if_pos h0]at hk⊢;exact hk
    . rw[if_neg h0]at hk⊢;exact hL k hk
  . unfold bF at hk⊢
    by_cases h0:i<n.keys.length
    . rw[if_pos h0]at hk⊢;exact hk
    . rw[if_neg h0]at hk⊢;exact hH k hk
theorem eF.cut{Q Q0:ah}{d:Nat}{n:Nd}{lo hi:ByteArray}{ps:List az}{i:Nat}(h:eF Q d n lo hi ps i)(ng:n.keys.length+1=n.kids.length)(h2:2<=n.kids.length)(FW:i<n.kids.length)(hne:∀k∈n.keys,k≠⟨#[]⟩)
 (hw:eL Q0 d n lo hi ps):eL Q d (dm n i) lo hi (bH ps i):=by
 have hps:=h.1
 obtain⟨Qi,LN⟩:∃b8,n.kids[i]? =some b8:=⟨_,List.getElem?_eq_getElem FW⟩
 obtain⟨p0,O1⟩:∃p,ps[i]? =some p:=⟨_,List.getElem?_eq_getElem (by omega)⟩
 obtain⟨LO,Qj⟩:=hw.2 i Qi p0 LN O1
 obtain⟨c,hc⟩:=List.exists_mem_of_ne_nil _ Qj
 obtain⟨jq,sE⟩:=cF.1 (LO.ordered.2 c hc)
 have hkeys:(dm n i).keys=bH n.keys (i-1):=by unfold dm;dsimp only;rw[if_pos (by omega)]
 have vY:(dm n i).kids=bH n.kids i:=rfl
 refine⟨by rw[vY,dh FW,dh (by omega),hps],fun j kj p hkj hp=> ?_⟩
 rw[vY,gK FW]at hkj
 rw[gK (by omega)]at hp
 rw[hkeys]
 have HW:(bH n.keys (i-1)).length=n.keys.length-1:=dh (by omega)
 by_cases hj:j<i
 . rw[if_pos hj]at hkj hp
   obtain⟨h3,h4⟩:=h.2 j kj p (by omega) hkj hp
   have e1:bX (bH n.keys (i-1)) lo j=bX n.keys lo j:=by
    unfold bX
    by_cases h0:0<j
    . rw[if_pos h0,if_pos h0,List.getD_eq_getElem?_getD,gK (by omega),if_pos (by omega),List.getD_eq_getElem?_getD]
    . rw[if_neg h0,if_neg h0]
   refine⟨h3.HV (fun k hk=>by rw[e1];exact hk) (fun k hk=> ?_),h4⟩
   unfold bF
   rw[HW,List.getD_eq_getElem?_getD,gK (by omega)]
   by_cases h5:j<i-1
   . rw[if_pos (by omega),if_pos h5]
     unfold bF at hk
     rw[if_pos (by omega),List.getD_eq_getElem?_getD]at hk;exact hk
   . obtain rfl:j=i-1:=by omega
     rw[if_neg (Nat.lt_irrefl _),show i-1+1=i by omega]
     unfold bF at hk sE
     rw[if_pos (by omega)]at hk
     unfold bX at jq
     rw[if_pos (by omega)]at jq
     have pG:∀z,(z=(⟨#[]⟩:ByteArray)\/bY c.key z=true)->z=⟨#[]⟩\/bY k z=true:=fun z hz=>by
      rcases hz with hz|hz
      . exact .inl hz
      . rcases hk with hk|hk
        . exact absurd hk (Bh hne (by omega))
        . exact .inr (bB hk (zb jq hz))
     by_cases h6:i<n.keys.length
     . rw[if_pos h6]at sE
       rw[if_pos (by omega),<-List.getD_eq_getElem?_getD];exact pG _ sE
     . rw[if_neg h6]at sE
       rw[if_neg (by omega)];exact pG _ sE
 . rw[if_neg hj]at hkj hp
   obtain⟨h3,h4⟩:=h.2 (j+1) kj p (by omega) hkj hp
   refine⟨h3.HV (fun k hk=> ?_) (fun k hk=> ?_),h4⟩
   . unfold bX at hk⊢
     rw[if_pos (by omega),show j+1-1=j by omega]at hk
     by_cases h0:0<j
     . rw[if_pos h0,List.getD_eq_getElem?_getD,gK (by omega),if_neg (by omega),show j-1+1=j by omega,<-List.getD_eq_getElem?_getD];exact hk
     . obtain rfl:j=0:=by omega
       obtain rfl:i=0:=by omega
       rw[if_neg (Nat.lt_irrefl _)]
       unfold bX at jq
       rw[if_neg (Nat.lt_irrefl _)]at jq
       unfold bF at sE
       rw[if_pos (by omega)]at sE
       rcases sE with sE|sE
       . exact absurd sE (Bh hne (by omega))
       . refine Bool.eq_false_iff.2 fun h7=> ?_
         have:=bB (D_ h7 jq) sE
         rw[hk]at this;cases this
   . unfold bF at hk⊢
     rw[HW]
     by_cases h6:j+1<n.keys.length
     . rw[if_pos (by omega),List.getD_eq_getElem?_getD,gK (by omega),if_neg (by omega),<-List.getD_eq_getElem?_getD];rw[if_pos h6]at hk;exact hk
     . rw[if_neg (by omega)];rw[if_neg h6]at hk;exact hk
theorem iI.mid{k:ByteArray}{a p q b:List Cell}(h:iI k p q)(ha:∀c∈a,c.key≠k)(hb:∀c∈b,c.key≠k):iI k (a++(p++b)) (a++(q++b)):=by
 intro c
 have:=h c
 simp only[List.mem_append]
 constructor
 . rintro(h1|h1|h1)
   . exact⟨.inl h1,ha c h1⟩
   . obtain⟨h2,h3⟩:=this.1 h1;exact⟨.inr (.inl h2),h3⟩
   . exact⟨.inr (.inr h1),hb c h1⟩
 . rintro⟨h1|h1|h1,h2⟩
   . exact .inl h1
   . exact .inr (.inl (this.2 ⟨h1,h2⟩))
   . exact .inr (.inr h1)
theorem vw.mid{Q Q1:ah}{r:Int}{u:Int->Prop}{p q a b:List Int}(h:vw Q Q1 r u p q)(hn:(a++(p++b)).Nodup):
 vw Q Q1 r u (a++(p++b)) (a++(q++b))/\(∀m,(m∈a\/m∈b)->m≠1->Q1 m=Q m):=by
 obtain⟨n1,n2,n3⟩:=List.nodup_append.1 hn
 obtain⟨n4,n5,n6⟩:=List.nodup_append.1 n2
 have gu:∀m,(m∈a\/m∈b)->m∉p:=fun m hm hp=>by
  rcases hm with h5|h5
  . exact n3 m h5 m (by simp[hp]) rfl
  . exact n6 m hp m h5 rfl
 refine⟨⟨h.fst.iff fun m=> ?_,tr hn h.nodup fun m hm=> .inl (h.old m hm),fun m hm=> ?_,fun m h1 h2=>h.rest m h1 fun h3=>h2 (by simp[h3])⟩,fun m hm h1=>h.rest m h1 (gu m hm)⟩
 . simp only[List.mem_append]
   constructor
   . rintro⟨h1,h2⟩
     refine⟨h1,fun h3=> ?_⟩
     rcases h3 with h3|h3|h3
     . exact .inl h3
     . exact .inr (.inl (h2 h3))
     . exact .inr (.inr h3)
   . rintro⟨h1,h2⟩
     refine⟨h1,fun h3=> ?_⟩
     rcases h2 (.inr (.inl h3))with h4|h4|h4
     . exact absurd h3 (gu m (.inl h4))
     . exact h4
     . exact absurd h3 (gu m (.inr h4))
 . simp only[List.mem_append]at hm⊢
   rcases hm with h1|h1|h1
   . exact .inl h1
   . exact .inr (.inl (h.old m h1))
   . exact .inr (.inr h1)
theorem Ck{n:Nd}(hf:kC n)(hl:n.leaf=false){keys:List ByteArray}{kids:List Int}(hs:keys.Sublist n.keys)(ht:kids.Sublist n.kids)(h1:1<=kids.length)(h2:keys.length+1=kids.length):kC {n with keys:=keys,kids:=kids}:=by
 obtain⟨g1,g2,g3,g4,g5,g6,g7⟩:=(aS hl).1 hf.nd.may
 have hlen:=rC hl
 have hb:=hf.fits.2
 have hfl:(kids.flatMap put).length<=(n.kids.flatMap put).length:=rD (f:=fun x:Int=>put x) ht
 have UC:(keys.flatMap aQ).length<=(n.keys.flatMap aQ).length:=rD hs
 have hp:=d_ (n.kids.length:Int)
 have hle:=ht.length_le
 refine⟨⟨(aS (n:={n with keys:=keys,kids:=kids}) hl).2 ⟨g1,fun c hc=>g2 c (hs.subset hc),g3.sublist hs,fun x hx=>g4 x (ht.subset hx),h1,(by show kids.length<=32;omega),h2⟩,?_⟩,fun c hc=>hf.fl c hc⟩
 rw[rC (n:={n with keys:=keys,kids:=kids}) hl]
 show 1+(put (kids.length:Int)).length+(kids.flatMap put).length+(keys.flatMap aQ).length<=256
 rw[di (by omega) (by omega)];omega
end Go.Pl
end
section
namespace Go.Pl
open Go Go.Sx
theorem xR{Q:ah}{r:Int}{u:Int->Prop}{d f:Nat}{no:Int}{lo hi:ByteArray}{n:Nd}{ps:List az}{k:ByteArray}{i:Nat}{b8:Int}{p:az}(hF:iX Q r u)(hu:∀m∈(wg no ps).1,u m)(hn:(wg no ps).1.Nodup)
 (hp:bz (Q no) n)(hl:n.leaf=false)(hw:eL Q d n lo hi ps)(hki:bu k lo hi=true)(IP:i=bM n.keys k)(hk:n.kids[i]? =some b8)(C3:ps[i]? =some p)
 (hg:uy Q r u d b8 (bX n.keys lo i) (bF n.keys hi i) p k (bC k f Q b8)):uy Q r u (d+1) no lo hi (wg no ps) k (bC k (f+1) Q no):=by
 have hno:=hF.may (hu no (by simp[wg]))
 have lp:no≠1:=by unfold av at hno;omega
 have hrd:=dL hno hp
 have hmn:=hp.1.nd.may
 obtain⟨hc0,hmk,qh,vY,qC,Qa,ng⟩:=(aS hl).1 hmn
 have hgd:n.kids.getD (bM n.keys k) 0=b8:=by rw[<-IP,List.getD_eq_getElem?_getD,hk];rfl
 have hil:i<ps.length:=(List.getElem?_eq_some_iff.1 C3).1
 have hik:i<n.kids.length:=(List.getElem?_eq_some_iff.1 hk).1
 have e1:(wg no ps).1=(no::(ps.take i).flatMap Prod.fst)++(p.1++(ps.drop (i+1)).flatMap Prod.fst):=by show no::ps.flatMap Prod.fst=_;rw[eZ C3];rfl
 have e2:(wg no ps).2=(ps.take i).flatMap Prod.snd++(p.2++(ps.drop (i+1)).flatMap Prod.snd):=eZ C3
 have hna:((no::(ps.take i).flatMap Prod.fst)++(p.1++(ps.drop (i+1)).flatMap Prod.fst)).Nodup:=by rw[<-e1];exact hn
 have hka:∀c∈(ps.take i).flatMap Prod.snd,c.key≠k:=fun c hc=>by
  obtain⟨q,hq,vg⟩:=List.mem_flatMap.1 hc
  obtain⟨j,hj,vQ⟩:=eR hq
  exact hw.other hmn hl hki (by omega) vQ c vg
 have C4:∀c∈(ps.drop (i+1)).flatMap Prod.snd,c.key≠k:=fun c hc=>by
  obtain⟨q,hq,vg⟩:=List.mem_flatMap.1 hc
  obtain⟨j,hj,vQ⟩:=eS hq
  exact hw.other hmn hl hki (by omega) vQ c vg
 have gu:∀(j:Nat) (q:az),j≠i->ps[j]? =some q->∀m∈q.1,(m∈no::(ps.take i).flatMap Prod.fst\/m∈(ps.drop (i+1)).flatMap Prod.fst)/\m≠1:=fun j q hj hq m hm=>by
  refine⟨?_,by have:=hF.may (hu m (List.mem_cons_of_mem _ (List.mem_flatMap.2 ⟨q,List.mem_of_getElem? hq,hm⟩)));unfold av at this;omega⟩
  rcases Nat.lt_or_gt_of_ne hj with h|h
  . exact .inl (List.mem_cons_of_mem _ (List.mem_flatMap.2 ⟨q,List.mem_of_getElem? (i:=j) (by rw[List.getElem?_take_of_lt h];exact hq),hm⟩))
  . exact .inr (List.mem_flatMap.2 ⟨q,List.mem_of_getElem? (i:=j-(i+1)) (by rw[List.getElem?_drop,show i+1+(j-(i+1))=j by omega];exact hq),hm⟩)
 have hin:∀c∈p.2,c∈(wg no ps).2:=fun c hc=>by rw[e2];simp[hc]
 rcases hg with⟨hres,hnone⟩|⟨Q1,q,hres,⟨c0,Gb,Gc⟩,hT,FV,hP,hS,_⟩|⟨Q1,hres,⟨c0,Gb,Gc⟩,hP,hS⟩
 .
  rw[fQ hrd hl (by rw[hgd];exact hres) rfl]
  refine .inl ⟨rfl,fun c hc=> ?_⟩
  rw[e2]at hc
  rcases List.mem_append.1 hc with h|h
  . exact hka c h
  . rcases List.mem_append.1 h with h|h
    . exact hnone c h
    . exact C4 c h
 .
  rw[fQ hrd hl (by rw[hgd];exact hres) rfl]
  obtain⟨hU,hfr⟩:=hS.mid hna
  have ud:Q1 no=Q no:=hfr no (.inl (by simp)) lp
  have hW:=eF.set (hw.but fun j q hj hq m hm=>hfr m (gu j q hj hq m hm).1 (gu j q hj hq m hm).2) hk hT FV
  refine .inr (.inl ⟨Q1,wg no (ps.set i q),rfl,⟨c0,hin c0 Gb,Gc⟩,aN.ways (by rw[ud];exact hp) hno hl hW,?_,?_,?_,fun n1 n2 g1 g2=>by rw[ud]at g2;rw[cP g1 g2];exact Nat.le_refl _⟩)
  . exact hW.full (by omega)
  . rw[e2];show iI k _ ((ps.set i q).flatMap Prod.snd);rw[gT hil];exact hP.mid hka C4
  . rw[e1];show vw Q Q1 r u _ (no::(ps.set i q).flatMap Prod.fst);rw[gT hil];exact hU
 .
  rw[kW hrd hl (by rw[hgd];exact hres) (by simp),<-IP]
  obtain⟨hU,hfr⟩:=hS.mid hna
  have ud:Q1 no=Q no:=hfr no (.inl (by simp)) lp
  have FJ:=hP.mid hka C4
  rw[<-e2,List.nil_append]at FJ
  rw[<-e1,List.nil_append]at hU
  have Lp:no∈(wg no ps).1:=by simp[wg]
  by_cases pG:n.kids.length-1=0
  . have UD:u no/\(no∈(wg no ps).1->no∈no::(ps.take i).flatMap Prod.fst++(ps.drop (i+1)).flatMap Prod.fst):=⟨hu no Lp,fun _=>by simp⟩
    obtain⟨Q2,hfree,C5,FK⟩:=hU.fst.free UD
    have Ms:ps.take i=[]/\ps.drop (i+1)=[]:=by
     have:=hw.1
     exact⟨List.length_eq_zero_iff.1 (by rw[List.length_take];omega),List.length_eq_zero_iff.1 (by rw[List.length_drop];omega)⟩
    rw[Ms.1,Ms.2]at FJ C5
    refine .inr (.inr ⟨Q2,by rw[jD pG,hfree];rfl,⟨c0,hin c0 Gb,Gc⟩,FJ,⟨C5.iff fun m=> ?_,by simp,fun m hm=>(by cases hm),fun m h1 h2=>(FK m h1).trans (hU.rest m h1 h2)⟩⟩)
    constructor
    . rintro⟨⟨h1,h2⟩,h3⟩
      exact⟨h1,fun h4=>absurd (List.mem_singleton.1 (h2 h4)) h3⟩
    . rintro⟨h1,h2⟩
      refine⟨⟨h1,fun h4=>absurd (h2 h4) (by simp)⟩,fun h4=> ?_⟩
      subst h4;exact absurd (h2 Lp) (by simp)
  . have hW:=eF.cut (hw.but fun j q hj hq m hm=>hfr m (gu j q hj hq m hm).1 (gu j q hj hq m hm).2) ng (by omega) hik (fun k hk=>(iH (hmk k hk)).2) hw
    have VN:(dm n i).keys=bH n.keys (i-1):=by unfold dm;dsimp only;rw[if_pos (by omega)]
    have hfit:kC (dm n i):=by
     have e:dm n i={n with keys:=bH n.keys (i-1),kids:=bH n.kids i}:=by unfold dm;rw[if_pos (by omega)]
     rw[e]
     exact Ck hp.1 hl (tw _ _) (tw _ _) (by rw[dh hik];omega) (by rw[dh hik,dh (by omega)];omega)
    have f1:(bH ps i).flatMap Prod.fst=(ps.take i).flatMap Prod.fst++(ps.drop (i+1)).flatMap Prod.fst:=w9
    have f2:(bH ps i).flatMap Prod.snd=(ps.take i).flatMap Prod.snd++(ps.drop (i+1)).flatMap Prod.snd:=w9
    rw[<-f2]at FJ
    have AU:vw Q Q1 r u (wg no ps).1 (wg no (bH ps i)).1:=by show vw Q Q1 r u _ (no::(bH ps i).flatMap Prod.fst);rw[f1];exact hU
    have hnot:∀p∈bH ps i,∀m∈p.1,m≠no:=fun p hp m hm e=>(List.nodup_cons.1 AU.nodup).1 (by rw[<-e];exact List.mem_flatMap.2 ⟨p,hp,hm⟩)
    refine .inr (.inl ⟨eW Q1 no (bS (dm n i)).1,wg no (bH ps i),?_,⟨c0,hin c0 Gb,Gc⟩,aN.ways (dY hfit) hno hl (hW.frame fun p hp m hm=>bQ (hnot p hp m hm)),?_,FJ,⟨(AU.fst.other (bQ (Ne.symm lp))),AU.nodup,AU.old,fun m h1 h2=>by rw[bQ fun e=>h2 (by rw[e];exact Lp)];exact AU.rest m h1 h2⟩,fun n1 n2 g1 g2=> ?_⟩)
    . rw[jE pG,show jo Q1 no (dm n i)= .ok (eW Q1 no (bS (dm n i)).1) by unfold jo;rw[if_pos (ff.2 hfit.fits)]];rfl
    . exact hW.full (by show 0<(bH n.kids i).length;rw[dh hik];omega)
    . rw[dj]at g2
      rw[cP g1 hp,cP (m:=dm n i) g2 ⟨hfit,rfl⟩];show(bH n.kids i).length<=_;rw[dh hik];omega
theorem aN.remove{k:ByteArray}:∀{d:Nat} {no:Int} {lo hi:ByteArray} {g:az} {Q:ah} {r:Int} {u:Int->Prop},aN Q d no lo hi g->iX Q r u->(∀m∈g.1,u m)->g.1.Nodup->bu k lo hi=true->
 ∀{f:Nat},d<f->uy Q r u d no lo hi g k (bC k f Q no):=by
 intro d
 induction d with
 |zero=>
  rintro no lo hi g Q r u ⟨n,h1,h2,h3,rfl,h5⟩ hF hu hn l6 f hf
  obtain⟨f,rfl⟩:∃f',f=f'+1:=⟨f-1,by omega⟩
  exact xQ hF (hu no (by simp)) h1 h3 h5
 |succ d ih=>
  rintro no lo hi g Q r u ⟨n,ps,h1,h2,h3,h4,h5,rfl⟩ hF hu hn l6 f hf
  obtain⟨f,rfl⟩:∃f',f=f'+1:=⟨f-1,by omega⟩
  obtain⟨_,_,qh,_,_,_,ng⟩:=(aS h3).1 h1.1.nd.may
  have hil:=gA n.keys k
  obtain⟨b8,hk⟩:∃b8,n.kids[bM n.keys k]? =some b8:=⟨_,List.getElem?_eq_getElem (by omega)⟩
  obtain⟨p,hp⟩:∃p,ps[bM n.keys k]? =some p:=⟨_,List.getElem?_eq_getElem (by omega)⟩
  have hsub:p.1.Sublist (ps.flatMap Prod.fst):=by
   rw[eZ hp]
   exact(List.sublist_append_left _ _).trans (List.sublist_append_right _ _)
  refine xR hF hu hn h1 h3 ⟨h4,h5⟩ l6 rfl hk hp (ih (h5 _ b8 p hk hp).1 hF (fun m hm=>hu m (List.mem_cons_of_mem _ (hsub.subset hm))) ((List.nodup_cons.1 hn).2.sublist hsub) (qZ qh l6) (by omega))
end Go.Pl
end
section
namespace Go.Pl
open Go Go.Sx
theorem aL.shrink{Q0:ah}:∀{d:Nat} {no:Int} {g:az} {Q:ah} {f:Nat},d<f->aN Q d no jW jW g->g.1.Nodup->iX Q no (fun m=>m∈g.1)->g.2≠[]->Bf Q d no->∃Q' g',cW f Q no= .ok Q'/\aL Q' g'/\g'.2=g.2/\g'.1.length<=g.1.length:=by
 intro d
 induction d with
 |zero=>
  intro no g Q f hf hT hn hF hne gF
  obtain⟨f,rfl⟩:∃f',f=f'+1:=⟨f-1,by omega⟩
  obtain⟨n,h1,h2,h3,h4,h5⟩:=id hT
  exact⟨Q,g,gD (dL h2 h1) (.inl h3),.inr ⟨0,no,hT,hn,hF,hne,gF⟩,rfl,Nat.le_refl _⟩
 |succ d ih=>
  intro no g Q f hf hT hn hF hne gF
  obtain⟨f,rfl⟩:∃f',f=f'+1:=⟨f-1,by omega⟩
  obtain⟨n,ps,h1,h2,h3,h4,h5,h6⟩:=id hT
  by_cases hk:n.leaf=true\/1<n.kids.length
  . exact⟨Q,g,gD (dL h2 h1) hk,.inr ⟨d+1,no,hT,hn,hF,hne,gF⟩,rfl,Nat.le_refl _⟩
  . obtain⟨_,_,_,_,qC,_,ng⟩:=(aS h3).1 h1.1.nd.may
    have hk2:n.kids.length=1:=by
     have:¬1<n.kids.length:=fun h=>hk (.inr h)
     omega
    obtain⟨b8,vv⟩:=List.length_eq_one_iff.1 hk2
    obtain⟨p,hp⟩:=List.length_eq_one_iff.1 (h4.trans hk2)
    have hks:n.keys=[]:=List.length_eq_zero_iff.1 (by omega)
    obtain⟨O3,O1⟩:=h5 0 b8 p (by rw[vv];rfl) (by rw[hp];rfl)
    have e1:bX n.keys jW 0=jW:=rfl
    have e2:bF n.keys jW 0=jW:=by rw[hks];rfl
    rw[e1,e2]at O3
    have hg:g=(no::p.1,p.2):=by rw[h6,hp];simp
    have lp:no≠1:=by unfold av at h2;omega
    obtain⟨Q1,hfree,FI,OU⟩:=hF.free (no:=no) (by rw[hg];simp)
    have hmk:=O3.may
    obtain⟨C5,FK⟩:=FI.set (no:=b8) (by unfold av at hmk;omega) (by unfold av at hmk;omega)
    rw[hg]at hn FI C5
    have Lp:=List.nodup_cons.1 hn
    have hfr:∀m∈p.1,cg Q1 b8 m=Q m:=fun m hm=>by
     have oz:m≠1:=by
      have:=hF.may (m:=m) (by rw[hg];exact List.mem_cons_of_mem _ hm);unfold av at this;omega
     rw[FK m oz,OU m oz]
    have hgd:n.kids.getD 0 0=b8:=by rw[vv];rfl
    obtain⟨Q',g',h7,h8,h9,h10⟩:=ih (f:=f) (by omega) (O3.frame hfr) Lp.2 (C5.iff fun m=>⟨fun h=>(List.mem_cons.1 h.1).resolve_left h.2,fun h=>⟨List.mem_cons_of_mem _ h,fun e=>Lp.1 (e▸h)⟩⟩) O1 ⟨by have:=gF.1;omega,fun e=>by have:=gF.1;omega⟩
    refine⟨Q',g',?_,h8,by rw[h9,hg],by rw[hg];simp only[List.length_cons];omega⟩
    rw[jR (dL h2 h1) hk,hfree,hgd];exact h7
theorem aL.del{Q:ah}{g:az}(h:aL Q g)(k:ByteArray):
 (cV Q k= .ok (false,Q)/\∀c∈g.2,c.key≠k)\/∃Q' g',cV Q k= .ok (true,Q')/\aL Q' g'/\iI k g.2 g'.2/\(∃c∈g.2,c.key=k)/\g'.1.length<=g.1.length:=by
 rcases h with⟨hF,rfl⟩|⟨d,no,hT,hn,hF,hne,gF⟩
 . exact .inl ⟨qa (hF.b7 (.inl rfl)) rfl,fun c hc=>by cases hc⟩
 . have hno:=hT.may
   have h0:no≠0:=by unfold av at hno;omega
   have js:=hF.b7 (.inr hno)
   have hd:=gF.1
   rcases hT.remove hF (fun m hm=>hm) hn (mL (k:=k)) (f:=32) (by omega)with⟨hres,hnone⟩|⟨Q1,g1,hres,hex,UE,Qk,hC,hL,hkk⟩|⟨Q1,hres,hex,hC,hL⟩
   . exact .inl ⟨r6 js h0 hres rfl rfl,hnone⟩
   . have FI:iX Q1 no (fun m=>m∈g1.1):=hL.fst.iff fun m=>⟨fun h=>h.2 h.1,fun h=>⟨hL.old m h,fun _=>h⟩⟩
     obtain⟨Q2,g2,h1,h2,h3,h4⟩:=aL.shrink (Q0:=Q) (f:=32) (by omega) UE hL.nodup FI Qk ⟨hd,fun e n' hn'=>by
      subst e
      obtain⟨n,ps,hp,_⟩:=hT
      exact Nat.le_trans (hkk n n' hp hn') (gF.2 rfl n hp)⟩
     have h5:=lB hL.nodup hL.old
     exact .inr ⟨Q2,g2,(mU js h0 hres rfl rfl).trans (aK h1),h2,by rw[h3];exact hC,hex,by omega⟩
   . have FI:iX Q1 no (fun _=>False):=hL.fst.iff fun m=>⟨fun h=>(by have:=h.2 h.1;cases this),False.elim⟩
     exact .inr ⟨cg Q1 0,([],[]),qb js h0 hres rfl,.inl ⟨(FI.set (by omega) (by omega)).1,rfl⟩,hC,hex,by simp⟩
end Go.Pl
end
section
namespace Go.Pl
open Go Go.Sx
def uz(Q:ah)(r:Int)(u:Int->Prop)(d:Nat)(no:Int)(lo hi:ByteArray)(g:az)(x:Cell)(res:TE (Part×ah)):Prop:=
 ∃Q' g',res= .ok (kJ,Q')/\aN Q' d no lo hi g'/\iS x g.2 g'.2/\g'.1=g.1/\iX Q' r u/\(∀m,m≠1->m∉g.1->Q' m=Q m)/\∀n n',bz (Q no) n->bz (Q' no) n'->n'.kids.length<=n.kids.length
theorem xS{Q:ah}{r:Int}{u:Int->Prop}{no:Int}{lo hi:ByteArray}{n:Nd}{x:Cell}(hF:iX Q r u)(hu:u no)(hp:bz (Q no) n)(hl:n.leaf=true)(hin:∀c∈n.cells,bu c.key lo hi=true)
 (hx:aA x=true)(fR:x.val.f<2^64/\x.new.f<2^64)(l6:bu x.key lo hi=true){c:Cell}(hc:c∈n.cells)(sS:c.key=x.key)(hlen:(au x).length<=(au c).length):
 uz Q r u 0 no lo hi ([no],n.cells) x (lg Q no {n with cells:=bZ n.cells x}):=by
 have hno:=hF.may hu
 have lp:no≠1:=by unfold av at hno;omega
 obtain⟨qC,hk2,FH,hr⟩:=(b5 hl).1 hp.1.nd.may
 obtain⟨kg,hput⟩:=kR hr x
 have hmay:∀c∈bZ n.cells x,aA c=true/\(c.val.f<2^64/\c.new.f<2^64)/\bu c.key lo hi=true:=fun c hc=>by
  rcases(hput c).1 hc with rfl|⟨h,_⟩
  . exact⟨hx,fR,l6⟩
  . exact⟨FH c h,hp.1.fl c h,hin c h⟩
 have hmn:cQ {n with cells:=bZ n.cells x}:=(b5 (n:={n with cells:=bZ n.cells x}) hl).2 ⟨qC,hk2,fun c hc=>(hmay c hc).1,kg⟩
 have he:(keysOf n.cells)[aG (keysOf n.cells) x.key]? =some x.key:=by
  by_cases he:(keysOf n.cells)[aG (keysOf n.cells) x.key]? =some x.key
  . exact he
  . have:=mX hr x.key
    rw[iD he]at this
    exact absurd sS (this c hc)
 obtain⟨z,hz,UF⟩:=dO he
 have FO:=key_inj hr (List.mem_of_getElem? hz) hc (UF.trans sS.symm)
 subst FO
 obtain⟨hlt,yo⟩:=List.getElem?_eq_some_iff.1 hz
 have hfl:((bZ n.cells x).flatMap au).length<=(n.cells.flatMap au).length/\(bZ n.cells x).length=n.cells.length:=by
  rw[qs he]
  refine⟨?_,List.length_set⟩
  rw[gT hlt,eZ hz]
  simp only[List.length_append];omega
 have hf:Fits {n with cells:=bZ n.cells x}:=by
  refine⟨hmn,?_⟩
  have hold:=fm hl
  have Us:=hp.1.fits.2
  rw[fm (n:={n with cells:=bZ n.cells x}) hl];dsimp only
  rw[hfl.2];have:=hfl.1;omega
 rw[nR hf]
 refine⟨_,([no],bZ n.cells x),rfl,⟨{n with cells:=bZ n.cells x},dY (n:={n with cells:=bZ n.cells x}) ⟨hf,fun c hc=>(hmay c hc).2.1⟩,hno,hl,rfl,fun c hc=>(hmay c hc).2.2⟩,hput,rfl,hF.other (bQ (Ne.symm lp)),fun m h1 h2=>bQ fun e=>h2 (by rw[e];simp),fun n1 n2 g1 g2=> ?_⟩
 rw[dj]at g2
 rw[cP g1 hp,cP (m:={n with cells:=bZ n.cells x}) g2 ⟨⟨hf,fun c hc=>(hmay c hc).2.1⟩,rfl⟩];exact Nat.le_refl _
theorem xT{Q:ah}{r:Int}{u:Int->Prop}{d f:Nat}{no:Int}{lo hi:ByteArray}{n:Nd}{ps:List az}{x:Cell}{i:Nat}{b8:Int}{p:az}(hF:iX Q r u)(hu:∀m∈(wg no ps).1,u m)(hn:(wg no ps).1.Nodup)
 (hp:bz (Q no) n)(hl:n.leaf=false)(hw:eL Q d n lo hi ps)(l6:bu x.key lo hi=true)(IP:i=bM n.keys x.key)(hk:n.kids[i]? =some b8)(C3:ps[i]? =some p)
 (hg:uz Q r u d b8 (bX n.keys lo i) (bF n.keys hi i) p x (bI x f Q b8)):uz Q r u (d+1) no lo hi (wg no ps) x (bI x (f+1) Q no):=by
 have hno:=hF.may (hu no (by simp[wg]))
 have lp:no≠1:=by unfold av at hno;omega
 have hrd:=dL hno hp
 have hmn:=hp.1.nd.may
 have hgd:n.kids.getD (bM n.keys x.key) 0=b8:=by rw[<-IP,List.getD_eq_getElem?_getD,hk];rfl
 have hil:i<ps.length:=(List.getElem?_eq_some_iff.1 C3).1
 have e1:(wg no ps).1=(no::(ps.take i).flatMap Prod.fst)++(p.1++(ps.drop (i+1)).flatMap Prod.fst):=by show no::ps.flatMap Prod.fst=_;rw[eZ C3];rfl
 have e2:(wg no ps).2=(ps.take i).flatMap Prod.snd++(p.2++(ps.drop (i+1)).flatMap Prod.snd):=eZ C3
 have hna:((no::(ps.take i).flatMap Prod.fst)++(p.1++(ps.drop (i+1)).flatMap Prod.fst)).Nodup:=by rw[<-e1];exact hn
 obtain⟨n1,n2,n3⟩:=List.nodup_append.1 hna
 obtain⟨n4,n5,n6⟩:=List.nodup_append.1 n2
 have hka:∀c∈(ps.take i).flatMap Prod.snd,c.key≠x.key:=fun c hc=>by
  obtain⟨q,hq,vg⟩:=List.mem_flatMap.1 hc
  obtain⟨j,hj,vQ⟩:=eR hq
  exact hw.other hmn hl l6 (by omega) vQ c vg
 have C4:∀c∈(ps.drop (i+1)).flatMap Prod.snd,c.key≠x.key:=fun c hc=>by
  obtain⟨q,hq,vg⟩:=List.mem_flatMap.1 hc
  obtain⟨j,hj,vQ⟩:=eS hq
  exact hw.other hmn hl l6 (by omega) vQ c vg
 have gu:∀(j:Nat) (q:az),j≠i->ps[j]? =some q->∀m∈q.1,m∉p.1/\m≠1:=fun j q hj hq m hm=>by
  refine⟨fun hmp=> ?_,by have:=hF.may (hu m (List.mem_cons_of_mem _ (List.mem_flatMap.2 ⟨q,List.mem_of_getElem? hq,hm⟩)));unfold av at this;omega⟩
  rcases Nat.lt_or_gt_of_ne hj with h|h
  . exact n3 m (List.mem_cons_of_mem _ (List.mem_flatMap.2 ⟨q,List.mem_of_getElem? (i:=j) (by rw[List.getElem?_take_of_lt h];exact hq),hm⟩)) m (List.mem_append_left _ hmp) rfl
  . exact n6 m hmp m (List.mem_flatMap.2 ⟨q,List.mem_of_getElem? (i:=j-(i+1)) (by rw[List.getElem?_drop,show i+1+(j-(i+1))=j by omega];exact hq),hm⟩) rfl
 obtain⟨Q1,q,hres,hT,hP,LP,FI,hfr,_⟩:=hg
 rw[fP hrd hl (by rw[hgd];exact hres) rfl]
 have ud:Q1 no=Q no:=hfr no lp fun h=>n3 no (by simp) no (List.mem_append_left _ h) rfl
 have FV:q.2≠[]:=by
  intro e
  have:=(hP x).2 (.inl rfl);rw[e]at this;cases this
 have hW:=eF.set (hw.but fun j q hj hq m hm=>hfr m (gu j q hj hq m hm).2 (gu j q hj hq m hm).1) hk hT FV
 refine⟨Q1,wg no (ps.set i q),rfl,aN.ways (by rw[ud];exact hp) hno hl hW,?_,?_,FI,fun m h1 h2=>hfr m h1 fun h3=>h2 (by rw[e1];simp[h3]),fun n1 n2 g1 g2=>by rw[ud]at g2;rw[cP g1 g2];exact Nat.le_refl _⟩
 . rw[e2];show iS x _ ((ps.set i q).flatMap Prod.snd);rw[gT hil];exact hP.mid hka C4
 . rw[e1];show no::(ps.set i q).flatMap Prod.fst=_;rw[gT hil,LP];rfl
theorem aN.place{x:Cell}(hx:aA x=true)(fR:x.val.f<2^64/\x.new.f<2^64):∀{d:Nat} {no:Int} {lo hi:ByteArray} {g:az} {Q:ah} {r:Int} {u:Int->Prop},aN Q d no lo hi g->iX Q r u->(∀m∈g.1,u m)->g.1.Nodup->bu x.key lo hi=true->
 (∃c∈g.2,c.key=x.key/\(au x).length<=(au c).length)->∀{f:Nat},d<f->uz Q r u d no lo hi g x (bI x f Q no):=by
 intro d
 induction d with
 |zero=>
  rintro no lo hi g Q r u ⟨n,h1,h2,h3,rfl,h5⟩ hF hu hn l6 ⟨c,hc,sS,jq⟩ f hf
  obtain⟨f,rfl⟩:∃f',f=f'+1:=⟨f-1,by omega⟩
  rw[gC (dL h2 h1) h3]
  exact xS hF (hu no (by simp)) h1 h3 h5 hx fR l6 hc sS jq
 |succ d ih=>
  rintro no lo hi g Q r u ⟨n,ps,h1,h2,h3,h4,h5,rfl⟩ hF hu hn l6 ⟨c,hc,sS,jq⟩ f hf
  obtain⟨f,rfl⟩:∃f',f=f'+1:=⟨f-1,by omega⟩
  obtain⟨_,_,qh,_,_,_,ng⟩:=(aS h3).1 h1.1.nd.may
  have hil:=gA n.keys x.key
  obtain⟨b8,hk⟩:∃b8,n.kids[bM n.keys x.key]? =some b8:=⟨_,List.getElem?_eq_getElem (by omega)⟩
  obtain⟨p,hp⟩:∃p,ps[bM n.keys x.key]? =some p:=⟨_,List.getElem?_eq_getElem (by omega)⟩
  have hsub:p.1.Sublist (ps.flatMap Prod.fst):=by
   rw[eZ hp]
   exact(List.sublist_append_left _ _).trans (List.sublist_append_right _ _)
  have O4:c∈p.2:=by
   obtain⟨q,hq,vg⟩:=List.mem_flatMap.1 hc
   obtain⟨j,hj⟩:=List.getElem?_of_mem hq
   by_cases e:j=bM n.keys x.key
   . subst e;rw[hp]at hj;injection hj with hj;subst hj;exact vg
   . exact absurd sS (eL.other ⟨h4,h5⟩ h1.1.nd.may h3 l6 e hj c vg)
  refine xT hF hu hn h1 h3 ⟨h4,h5⟩ l6 rfl hk hp (ih (h5 _ b8 p hk hp).1 hF (fun m hm=>hu m (List.mem_cons_of_mem _ (hsub.subset hm))) ((List.nodup_cons.1 hn).2.sublist hsub) (qZ qh l6) ⟨c,O4,sS,jq⟩ (by omega))
theorem aL.place{Q:ah}{g:az}(h:aL Q g){x:Cell}(hx:aA x=true)(fR:x.val.f<2^64/\x.new.f<2^64){c:Cell}(hc:c∈g.2)(sS:c.key=x.key)(hlen:(au x).length<=(au c).length):
 ∃Q' g',dA Q x= .ok Q'/\aL Q' g'/\iS x g.2 g'.2/\g'.1=g.1:=by
 rcases h with⟨hF,rfl⟩|⟨d,no,hT,hn,hF,hne,gF⟩
 . cases hc
 . have hno:=hT.may
   have h0:no≠0:=by unfold av at hno;omega
   have js:=hF.b7 (.inr hno)
   have hd:=gF.1
   obtain⟨Q',g',hres,OW,hP,LP,OZ,_,hk⟩:=hT.place hx fR hF (fun m hm=>hm) hn mL ⟨c,hc,sS,hlen⟩ (f:=32) (by omega)
   refine⟨Q',g',mT js h0 hres rfl,.inr ⟨d,no,OW,by rw[LP];exact hn,by rw[LP];exact OZ,?_,hd,fun e n' hn'=> ?_⟩,hP,LP⟩
   . intro e;have:=(hP x).2 (.inl rfl);rw[e]at this;cases this
   . subst e
     obtain⟨n,ps,hp,_⟩:=hT
     exact Nat.le_trans (hk n n' hp hn') (gF.2 rfl n hp)
end Go.Pl
end
section
namespace Go.Pl
open Go Go.Sx
def ia(l:List Cell)(k:ByteArray):List Cell:=l.filter fun c=>decide (c.key≠k)
def cq(l:List Cell)(k:ByteArray):Option Cell:=l.find? fun c=>decide (c.key=k)
theorem kZ{l:List Cell}(h:rising (keysOf l))(k:ByteArray):rising (keysOf (ia l k)):=h.sublist (List.filter_sublist.map _)
theorem eG(l:List Cell)(k:ByteArray):iI k l (ia l k):=fun c=>by unfold ia;rw[List.mem_filter];simp
theorem uA{l l':List Cell}{x:Cell}(h:rising (keysOf l))(h':rising (keysOf l'))(hp:iS x l l'):l'=bZ l x:=by
 obtain⟨h1,h2⟩:=kR h x
 exact sg h' h1 fun c=>(hp c).trans (h2 c).symm
theorem Kl{l l':List Cell}{k:ByteArray}(h:rising (keysOf l))(h':rising (keysOf l'))(hp:iI k l l'):l'=ia l k:=
 sg h' (kZ h k) fun c=>(hp c).trans (eG l k c).symm
theorem tD{l:List Cell}{k:ByteArray}(h:∀c∈l,c.key≠k):ia l k=l:=by
 unfold ia;rw[List.filter_eq_self];intro c hc;simpa using h c hc
theorem Bi{l:List Cell}{k:ByteArray}{o:Option Cell}(h:rising (keysOf l))(hf:Found l k o):o=cq l k:=by
 cases o with
 |none=>
  refine(List.find?_eq_none.2 fun c hc=> ?_).symm
  simpa using hf c hc
 |some z=>
  obtain⟨h1,h2⟩:=hf
  cases hg:cq l k with
  |none=>have:=List.find?_eq_none.1 hg z h1;simp[h2]at this
  |some w=>
   have hw:=List.find?_some hg
   exact congrArg some (key_inj h h1 (List.mem_of_find?_eq_some hg) (h2.trans (of_decide_eq_true hw).symm))
theorem o3{l:List Cell}{k:ByteArray}:(cq l k).isSome=true↔∃c∈l,c.key=k:=by
 unfold cq;rw[List.find?_isSome]
 constructor
 . rintro⟨c,h1,h2⟩;exact⟨c,h1,of_decide_eq_true h2⟩
 . rintro⟨c,h1,h2⟩;exact⟨c,h1,decide_eq_true h2⟩
theorem jd{l:List Cell}{k:ByteArray}(h:∀c∈l,c.key≠k):cq l k=none:=by
 unfold cq;rw[List.find?_eq_none];intro c hc;simpa using h c hc
theorem Cl{α:Type}[DecidableEq α]{a b:List α}(ha:a.Nodup)(hb:b.Nodup)(h:∀x,x∈a↔x∈b):a.length=b.length:=
 Nat.le_antisymm (lB ha fun x hx=>(h x).1 hx) (lB hb fun x hx=>(h x).2 hx)
theorem aL.nodup{Q:ah}{g:az}(h:aL Q g):g.1.Nodup:=by
 rcases h with⟨_,rfl⟩|⟨_,_,_,h,_⟩
 . exact List.nodup_nil
 . exact h
theorem aL.may{Q:ah}{g:az}(h:aL Q g):∀m∈g.1,av m:=by
 obtain⟨r,hF,_⟩:=h.fst
 exact fun m hm=>hF.may hm
theorem aL.j7{Q:ah}{g:az}(h:aL Q g):g.1.length<=30:=qw h.nodup h.may
theorem aL.none{Q:ah}{g:az}(h:aL Q g)(h0:g.2=[]):g=([],[]):=by
 rcases h with⟨_,h⟩|⟨_,_,_,_,_,h,_⟩
 . exact h
 . exact absurd h0 h
theorem aL.some{Q:ah}{g:az}(h:aL Q g)(h0:g.1=[]):g.2=[]:=by
 rcases h with⟨_,rfl⟩|⟨_,_,h,_⟩
 . rfl
 . obtain⟨l,hl⟩:=h.head;rw[h0]at hl;cases hl
theorem aL.one{Q:ah}{g:az}(h:aL Q g):aX (aI Q 1)=(0,Q 1):=by
 obtain⟨r,hF,_⟩:=h.fst
 have h1:aI Q 1=(0,Q 1):=by unfold aI;rw[if_pos (by decide)]
 rw[h1];unfold aX;rw[if_neg (by simp),if_neg (by dsimp only;rw[hF.len];simp)]
theorem gq{sT b:Nat}{v:Value}{e:Int}{H:Chunk}:¬cD sT b v (fun _ _=>False) e H:=by
 rintro⟨m,h⟩
 obtain⟨_,_,_,_,_,_,_,h⟩:=h.is
 exact h
def ej(sT b:Nat)(P:Value)(I:Chunk->Prop)(Qb:ah)(g:az)(H:Chunk):Prop:=∃Qt,aM sT b P I Qb Qt H/\aL Qt g
theorem z7:aL (fun _=>fT 256) ([],[]):=by
 refine .inl ⟨⟨fu 256,rfl,fun m=>⟨fun h=> ?_,False.elim⟩⟩,rfl⟩
 have hm:=kQ h
 obtain⟨n,rfl,h1,h2⟩:=jz hm
 have:∀k:Fin 32,hasB (fT 256) ((k.val:Nat):Int)=false:=by decide
 rw[this ⟨n,h2⟩]at h;cases h
end Go.Pl
end
section
namespace Go.Pl
open Go Go.Sx
theorem Km(u:Nat):u&&&9218868437227405312=(u/2^52%2^11)*2^52:=by
 have e:(9218868437227405312:Nat)=(2^11-1)<<<52:=by decide
 rw[e,<-Nat.and_two_pow_sub_one_eq_mod,<-Nat.shiftRight_eq_div_pow,<-Nat.shiftLeft_eq]
 apply Nat.eq_of_testBit_eq
 intro i
 simp only[Nat.testBit_and,Nat.testBit_shiftLeft,Nat.testBit_shiftRight]
 by_cases h:52<=i
 . rw[decide_eq_true h,show 52+(i-52)=i by omega];simp
 . rw[decide_eq_false h];simp
theorem Kn(u:Nat):u&&&4503599627370495=u%2^52:=Nat.and_two_pow_sub_one_eq_mod u 52
theorem DN{u:Nat}(h:u<2^64){k:Nat}(hk:k<2^64):IntKind.u64.wrap ((BitVec.ofInt IntKind.u64.bits (u:Int)&&&BitVec.ofInt IntKind.u64.bits ((k:Nat):Int)).toNat:Int)=((u&&&k:Nat):Int):=by
 show IntKind.u64.wrap ((BitVec.ofInt 64 (u:Int)&&&BitVec.ofInt 64 ((k:Nat):Int)).toNat:Int)=_
 rw[BitVec.toNat_and,yB h,yB hk,wrap_u64 (by omega) (by have:=Nat.and_le_left (n:=u) (m:=k);omega)]
theorem Ee{u:Nat}:jZ u=(decide (u&&&9218868437227405312=9218868437227405312)&&decide (u&&&4503599627370495≠0)):=by
 rw[B7,Km,Kn]
 congr 1
 exact decide_eq_decide.2 (by omega)
def jv(u:Nat):Int:=(bT u:Nat)-9223372036854775808
theorem Cm{a b:Nat}:jv a=jv b↔bT a=bT b:=by unfold jv;omega
theorem HX{u:Nat}(hu:u<2^64):(u:Int).fdiv (2^min (Int.toNat 63) IntKind.u64.bits)=1↔2^63<=u:=by
 have e:(2:Int)^min (Int.toNat 63) IntKind.u64.bits=9223372036854775808:=by decide
 rw[e,Int.fdiv_eq_ediv_of_nonneg _ (by decide)];omega
theorem Cn{u:Nat}(hu:u<2^64)(hn:jZ u=false)(h:(u:Int).fdiv (2^min (Int.toNat 63) IntKind.u64.bits)=1):
 IntKind.i64.wrap (IntKind.i64.wrap (0-IntKind.i64.wrap (IntKind.u64.wrap ((BitVec.ofInt IntKind.u64.bits (u:Int)&&&BitVec.ofInt IntKind.u64.bits 9223372036854775807).toNat:Int)))-1)=jv u:=by
 have h:=(HX hu).1 h
 have e:IntKind.u64.wrap ((BitVec.ofInt IntKind.u64.bits (u:Int)&&&BitVec.ofInt IntKind.u64.bits 9223372036854775807).toNat:Int)=((u&&&9223372036854775807:Nat):Int):=DN hu (k:=9223372036854775807) (by decide)
 rw[e,show u&&&9223372036854775807=u%2^63 from Nat.and_two_pow_sub_one_eq_mod u 63]
 unfold jv bT
 rw[hn,if_neg (by simp),if_pos h,wrap_i64 (n:=((u%2^63:Nat):Int)) (by omega) (by omega),wrap_i64 (n:=0-((u%2^63:Nat):Int)) (by omega) (by omega),wrap_i64 (by omega) (by omega)]
 omega
theorem Co{u:Nat}(hu:u<2^64)(hn:jZ u=false)(h:¬(u:Int).fdiv (2^min (Int.toNat 63) IntKind.u64.bits)=1):IntKind.i64.wrap (u:Int)=jv u:=by
 have h:¬2^63<=u:=fun h2=>h ((HX hu).2 h2)
 unfold jv bT
 rw[hn,if_neg (by simp),if_neg h,wrap_i64 (by omega) (by omega)]
 omega
def Ql(i:Nat):ByteArray:=⟨#[107,UInt8.ofNat (48+i/100%10),UInt8.ofNat (48+i/10%10),UInt8.ofNat (48+i%10),97,98,99,100,101,102,103,104,105,106,107,108]⟩
def Na(n:Nat):ByteArray:=⟨⟨List.replicate n 0⟩⟩
def Qm(n:Nat):Vl:=⟨2,0,Na n⟩
end Go.Pl
end
section
namespace Go.Pl
open Go Go.Sx
def yE(c:Cell)(st:List Cell×Bool)(x:Cell):List Cell×Bool:=if st.2=false/\bY x.key c.key=false then(st.1++[c],true)else st
def iT(c:Cell)(st:List Cell×Bool)(x:Cell):List Cell×Bool:=if x.key≠c.key then((yE c st x).1++[x],(yE c st x).2)else yE c st x
def AA(l:List Cell)(c:Cell)(i:Nat):List Cell×Bool:=(l.take i).foldl (iT c) ([],false)
def uB(l:List Cell)(c:Cell):List Cell:=if(AA l c l.length).2=false then(AA l c l.length).1++[c]else(AA l c l.length).1
theorem mZ{c:Cell}:∀{l:List Cell} {out:List Cell},(∀x∈l,bY c.key x.key=true)->l.foldl (iT c) (out,true)=(out++l,true)
 |[],out,_=>by simp
 |x::l,out,h=>by
  have h1:=h x (by simp)
  have e:iT c (out,true) x=(out++[x],true):=by
   have h2:x.key≠c.key:=fun e=>by rw[e,aC]at h1;cases h1
   simp[iT,yE,h2]
  rw[List.foldl_cons,e,mZ fun y hy=>h y (by simp[hy])];simp
theorem w_{c:Cell}:∀{l:List Cell} {out:List Cell},rising (keysOf l)->
 (if(l.foldl (iT c) (out,false)).2=false then(l.foldl (iT c) (out,false)).1++[c]else(l.foldl (iT c) (out,false)).1)=out++(l.filter (fun x=>bY x.key c.key)++c::l.filter (fun x=>bY c.key x.key))
 |[],out,_=>by simp
 |x::l,out,h=>by
  have h':=List.pairwise_cons.1 h
  have hgt:∀y∈l,bY x.key y.key=true:=fun y hy=>h'.1 _ (List.mem_map.2 ⟨y,hy,rfl⟩)
  rw[List.foldl_cons,List.filter_cons,List.filter_cons]
  rcases ep x.key c.key with h1|h1|h1
  . have e:iT c (out,false) x=(out++[x],false):=by
     have h2:x.key≠c.key:=fun e=>by rw[e,aC]at h1;cases h1
     simp[iT,yE,h1,h2]
    rw[e,w_ h'.2,if_pos h1,if_neg (by rw[cL h1];simp)]
    simp
  . have e:iT c (out,false) x=(out++[c],true):=by
     simp[iT,yE,h1,aC]
    have hl:∀y∈l,bY c.key y.key=true:=fun y hy=>by rw[<-h1];exact hgt y hy
    rw[e,mZ hl,if_neg (by simp),if_neg (by rw[h1,aC];simp),if_neg (by rw[h1,aC];simp),List.filter_eq_nil_iff.2 (fun y hy=>by rw[cL (hl y hy)];simp),List.filter_eq_self.2 hl]
    simp
  . have e:iT c (out,false) x=(out++[c,x],true):=by
     have h2:x.key≠c.key:=fun e=>by rw[e,aC]at h1;cases h1
     simp[iT,yE,cL h1,h2]
    have hl:∀y∈l,bY c.key y.key=true:=fun y hy=>bB h1 (hgt y hy)
    rw[e,mZ hl,if_neg (by simp),if_neg (by rw[cL h1];simp),if_pos h1,List.filter_eq_nil_iff.2 (fun y hy=>by rw[cL (hl y hy)];simp),List.filter_eq_self.2 hl]
    simp
theorem tE{l:List Cell}{c:Cell}(h:rising (keysOf l)):uB l c=bZ l c:=by
 have e:uB l c=l.filter (fun x=>bY x.key c.key)++c::l.filter (fun x=>bY c.key x.key):=by
  have:=w_ (c:=c) (l:=l) (out:=[]) h
  unfold uB AA
  rw[List.take_of_length_le (Nat.le_refl _),this];simp
 have hr:rising (keysOf (uB l c)):=by
  rw[e]
  unfold keysOf rising
  rw[List.map_append,List.pairwise_append,List.map_cons,List.pairwise_cons]
  refine⟨h.sublist (List.filter_sublist.map _),⟨fun k hk=> ?_,h.sublist (List.filter_sublist.map _)⟩,fun a ha b hb=> ?_⟩
  . obtain⟨y,hy,rfl⟩:=List.mem_map.1 hk
    exact(List.mem_filter.1 hy).2
  . obtain⟨x,hx,rfl⟩:=List.mem_map.1 ha
    have hx:=(List.mem_filter.1 hx).2
    rcases List.mem_cons.1 hb with rfl|hb
    . exact hx
    . obtain⟨y,hy,rfl⟩:=List.mem_map.1 hb
      exact bB hx (List.mem_filter.1 hy).2
 refine uA h hr fun z=> ?_
 rw[e,List.mem_append,List.mem_cons,List.mem_filter,List.mem_filter]
 constructor
 . rintro(⟨h1,h2⟩|h1|⟨h1,h2⟩)
   . exact .inr ⟨h1,uw h2⟩
   . exact .inl h1
   . exact .inr ⟨h1,fun e=>by rw[e,aC]at h2;cases h2⟩
 . rintro(h1|⟨h1,h2⟩)
   . exact .inr (.inl h1)
   . rcases ep z.key c.key with h3|h3|h3
     . exact .inl ⟨h1,h3⟩
     . exact absurd h3 h2
     . exact .inr (.inr ⟨h1,h3⟩)
def HY(v:Vl):Vl:={v with s:=Bz v.s 25}
def HZ(i n:Nat):Bool:=decide (∃k,k<i/\(k*7+3)%n=(i*7+3)%n)
end Go.Pl
end
section
namespace Go.Pl
open Go Go.Sx
def Ef(x:Cell)(l:List Cell):Prop:=∀c∈l,c.key=x.key->(au c).length<(au x).length
def BE(x:Cell)(g g':az)(e:Int):Prop:=
 (aA x=false/\e=1/\g'=g)\/(aA x=true/\e=0/\g'.2=bZ g.2 x/\((∃c∈g.2,c.key=x.key/\(au x).length<=(au c).length)->g'.1=g.1))\/
 (aA x=true/\e=4/\g'=g/\28<=g.1.length/\20<=g.2.length/\Ef x g.2)
theorem aL.Jt{Q Q':ah}{g:az}(h:aL Q g){x:Cell}(hx:aA x=true)(fR:x.val.f<2^64/\x.new.f<2^64)(hp:dA Q x= .ok Q'):
 ∃g',aL Q' g'/\g'.2=bZ g.2 x/\((∃c∈g.2,c.key=x.key/\(au x).length<=(au c).length)->g'.1=g.1):=by
 by_cases hc:∃c∈g.2,c.key=x.key/\(au x).length<=(au c).length
 . obtain⟨c,Rz,IJ,UG⟩:=hc
   obtain⟨Q2,g',h1,h2,h3,h4⟩:=h.place hx fR Rz IJ UG
   rw[hp]at h1;injection h1 with h1;subst h1
   exact⟨g',h2,uA h.rising h2.rising h3,fun _=>h4⟩
 . rcases h.put hx fR with⟨Q2,g',h1,h2,h3⟩|⟨h1,_⟩
   . rw[hp]at h1;injection h1 with h1;subst h1
     exact⟨g',h2,uA h.rising h2.rising h3,fun h=>absurd h hc⟩
   . rw[hp]at h1;cases h1
theorem aL.Ju{Q:ah}{g:az}(h:aL Q g){x:Cell}(hx:aA x=true)(fR:x.val.f<2^64/\x.new.f<2^64){e:Int}(hp:dA Q x= .error e):
 e=4/\28<=g.1.length/\20<=g.2.length/\Ef x g.2:=by
 rcases h.put hx fR with⟨Q2,g',h1,_⟩|⟨h1,h2,h3⟩
 . rw[hp]at h1;cases h1
 . rw[hp]at h1;injection h1 with h1
   refine⟨h1,h2,h3,fun c hc hk=> ?_⟩
   refine Nat.lt_of_not_le fun hl=> ?_
   obtain⟨Q2,g',h4,_⟩:=h.place hx fR hc hk hl
   rw[hp]at h4;cases h4
theorem aL.Jv{Q Q':ah}{g:az}(h:aL Q g){k:ByteArray}{has:Bool}(hp:cV Q k= .ok (has,Q')):∃g',aL Q' g'/\g'.2=ia g.2 k/\has=(cq g.2 k).isSome/\g'.1.length<=g.1.length:=by
 rcases h.del k with⟨h1,h2⟩|⟨Q2,g',h1,h2,h3,h4,h5⟩
 . rw[hp]at h1;injection h1 with h1;injection h1 with h1 h3;subst h1 h3
   exact⟨g,h,(tD h2).symm,by rw[jd h2];rfl,Nat.le_refl _⟩
 . rw[hp]at h1;injection h1 with h1;injection h1 with h1 h6;subst h1 h6
   exact⟨g',h2,Kl h.rising h2.rising h3,(o3.2 h4).symm,h5⟩
theorem aL.Jw{Q:ah}{g:az}(h:aL Q g){k:ByteArray}{e:Int}:cV Q k≠.error e:=by
 rcases h.del k with⟨h1,_⟩|⟨Q2,g',h1,_⟩<;>rw[h1]<;>intro h<;>cases h
theorem aL.Mt{Q:ah}{g:az}(h:aL Q g){k:ByteArray}{o:Option Cell}(hp:getTop (aI Q) k= .ok o):o=cq g.2 k:=by
 obtain⟨o2,h1,h2⟩:=h.get k
 rw[hp]at h1;injection h1 with h1;subst h1
 exact Bi h.rising h2
theorem aL.Mu{Q:ah}{g:az}(h:aL Q g){k:ByteArray}{e:Int}:getTop (aI Q) k≠.error e:=by
 obtain⟨o2,h1,h2⟩:=h.get k
 rw[h1];intro h;cases h
def kD(l:List Cell):Prop:=∀c∈l,aA c=true/\c.val.f<2^64/\c.new.f<2^64
theorem eB{l:List Cell}(h:rising (keysOf l)){x c:Cell}:c∈bZ l x↔c=x\/(c∈l/\c.key≠x.key):=(kR h x).2 c
theorem k4{l:List Cell}(h:rising (keysOf l))(x:Cell):rising (keysOf (bZ l x)):=(kR h x).1
theorem Eg(l:List Cell):(l.filter fun c=>bu c.key ⟨#[]⟩ ⟨#[]⟩)=l:=List.filter_eq_self.2 fun _ _=>mL
theorem aL.small{Q:ah}{g:az}(h:aL Q g):g.2.length<=8192:=by
 have:=(nT h.all).2
 exact this
theorem ej.small{sT b:Nat}{P:Value}{I:Chunk->Prop}{Qb:ah}{g:az}{H:Chunk}(h:ej sT b P I Qb g H):g.1.length<=30/\g.2.length<=8192/\rising (keysOf g.2)/\g.1.Nodup/\(∀m∈g.1,av m):=by
 obtain⟨Q,_,h⟩:=h
 exact⟨h.j7,h.small,h.rising,h.nodup,h.may⟩
theorem ej.any{sT b:Nat}{P:Value}{I:Chunk->Prop}{Qb:ah}{g:az}{H:Chunk}(h:ej sT b P I Qb g H)(h0:0<g.2.length):0<g.1.length:=by
 obtain⟨Q,_,h⟩:=h
 rcases Nat.eq_zero_or_pos g.1.length with h1|h1
 . have:=h.some (List.length_eq_zero_iff.1 h1);rw[this]at h0;exact absurd h0 (Nat.lt_irrefl 0)
 . exact h1
theorem ej.nil{sT b:Nat}{P:Value}{I:Chunk->Prop}{Qb:ah}{g:az}{H:Chunk}(h:ej sT b P I Qb g H)(h0:g.2=[]):g=([],[]):=by
 obtain⟨Q,_,h⟩:=h
 exact h.none h0
def C7:ah:=fun _=>fT 256
theorem dP:cC C7:=fun _ _=>fu 256
end Go.Pl
end
section
namespace Go.Sx
open Go
section
variable[aq]{X:Cx}{k:cU}{R:dN}{hs:List Chunk}{ops:Array Oper}{l:List Oper}{T:aB}{d ty':Nat}{pos:String}{after:Array Edge}{gd:Option (Nat×Bool)}
theorem OT.O5{x y:Operand}{t t2:Nat}{u:Nat}(hu:jZ u=false)(hg:dQ ops R gd=some true)(hx:ev R x=some (.float .f64 u))(hy:ev R y=some (.float .f64 u))(hdn:Nat.ble (d+1) X.n=true)
 (h:OT X ops l k ((d,.bool true)::R) hs):OT X ops (⟨some d,.binOp .eql t x y t2,ty',pos,after,gd⟩::l) k R hs:=by
 refine OT.value hg rfl hdn fun a w ha hm=>⟨_,hs,w,?_,hm,h⟩
 have h1:=rV u
 rw[hu]at h1
 have h2:(FloatKind.f64.format.order u u==some .eq)=true:=by
  unfold bne at h1;simpa using h1
 simp only[execOp,ha.ev hx,ha.ev hy]
 simp[eqGuard,binOp,Op.floatCmp,h2]
end
end Go.Sx
namespace Go.Pl
open Go Go.Sx
def kA:ByteArray:=⟨#[97]⟩
def kB:ByteArray:=⟨#[98]⟩
def cA:Cell:=⟨kA,⟨2,0,⟨#[120]⟩⟩,0,aW⟩
def cB:Cell:=⟨kB,⟨1,4611686018427387904,⟨#[]⟩⟩,0,aW⟩
theorem uP:jZ 4611686018427387904=false:=by unfold jZ;decide
theorem Ko{g:az}{e:Int}(h:BE cB ([],[]) g e):e=0/\g.2=[cB]:=by
 have hm:aA cB=true:=by decide
 rcases h with⟨h,_⟩|⟨_,h1,h2,_⟩|⟨_,_,_,h,_⟩
 . rw[hm]at h;cases h
 . exact⟨h1,h2⟩
 . exact absurd h (by decide)
theorem Kp{g g':az}{e:Int}(hg:g.2=[cB])(h:BE cA g g' e):e=0/\g'.2=[cA,cB]:=by
 have hm:aA cA=true:=by decide
 rcases h with⟨h,_⟩|⟨_,h1,h2,_⟩|⟨_,_,_,_,h,_⟩
 . rw[hm]at h;cases h
 . refine⟨h1,?_⟩
   rw[h2,hg,<-tE (l:=[cB]) (c:=cA) (show rising [kB]from List.pairwise_singleton _ _)];decide
 . rw[hg]at h;exact absurd h (by decide)
theorem Kq{g g':az}{e:Int}(h:BE noCell g g' e):e=1:=by
 have hm:aA noCell=false:=by decide
 rcases h with⟨_,h,_⟩|⟨h,_⟩|⟨h,_⟩
 . exact h
 . rw[hm]at h;cases h
 . rw[hm]at h;cases h
theorem Cp:cq [cA,cB] kB=some cB:=by decide
theorem Cq:cq [cA,cB] kA=some cA:=by decide
end Go.Pl
end
section
namespace Go.Pl
open Go Go.Sx
def jU(f:Nat->Cell):Nat->List Cell
 |0=>[]
 |i+1=>bZ (jU f i) (f i)
theorem jS(f:Nat->Cell):∀i,rising (keysOf (jU f i))
 |0=>List.Pairwise.nil
 |i+1=>k4 (jS f i) _
theorem tF{f:Nat->Cell}:∀{i:Nat} {c:Cell},c∈jU f i->∃j,j<i/\c=f j
 |0,c,h=>by cases h
 |i+1,c,h=>by
  rcases(eB (jS f i)).1 h with h|⟨h,_⟩
  . exact⟨i,by omega,h⟩
  . obtain⟨j,h1,h2⟩:=tF h;exact⟨j,by omega,h2⟩
theorem tG{f:Nat->Cell}:∀{i j:Nat},j<i->(∀k,j<k->k<i->(f k).key≠(f j).key)->f j∈jU f i
 |0,j,h,_=>by omega
 |i+1,j,h,hk=>by
  refine(eB (jS f i)).2 ?_
  by_cases e:j=i
  . exact .inl (by rw[e])
  . exact .inr ⟨tG (by omega) fun k h1 h2=>hk k h1 (by omega),fun h2=>hk i (by omega) (by omega) h2.symm⟩
theorem lC{x:Cell}{g g':az}{e:Int}(hm:aA x=true)(h:BE x g g' e):(e=0/\g'.2=bZ g.2 x)\/(e=4/\g'=g/\28<=g.1.length/\20<=g.2.length):=by
 rcases h with⟨h,_⟩|⟨_,h1,h2,_⟩|⟨_,h1,h2,h3,h4,_⟩
 . rw[hm]at h;cases h
 . exact .inl ⟨h1,h2⟩
 . exact .inr ⟨h1,h2,h3,h4⟩
def vZ(k v:Nat):Cell:=⟨Ql k,Qm v,0,aW⟩
end Go.Pl
end
section
namespace Go.Pl
open Go Go.Sx
def ny(f:Nat->Cell)(i n:Nat)(l:List Cell):Prop:=∀c,c∈l↔∃j,i<=j/\j<n/\c=f j
def tH(f:Nat->Cell)(n:Nat):Prop:=∀i j,i<n->j<n->(f i).key=(f j).key->i=j
theorem ny.fill{f:Nat->Cell}{n:Nat}(h:tH f n):ny f 0 n (jU f n):=fun c=>by
 constructor
 . intro hc;obtain⟨j,h1,h2⟩:=tF hc;exact⟨j,by omega,h1,h2⟩
 . rintro⟨j,_,h1,rfl⟩
   exact tG h1 fun k h2 h3 e=>by have:=h k j h3 h1 e;omega
theorem ny.has{f:Nat->Cell}{i n:Nat}{l:List Cell}(h:ny f i n l)(hi:i<n):(cq l (f i).key).isSome=true:=
 o3.2 ⟨f i,(h _).2 ⟨i,Nat.le_refl _,hi,rfl⟩,rfl⟩
theorem ny.cut{f:Nat->Cell}{i n:Nat}{l:List Cell}(h:ny f i n l)(hk:tH f n)(hi:i<n):ny f (i+1) n (ia l (f i).key):=fun c=>by
 rw[eG l (f i).key c,h c]
 constructor
 . rintro⟨⟨j,h1,h2,rfl⟩,h3⟩
   exact⟨j,by have:j≠i:=fun e=>h3 (by rw[e]);omega,h2,rfl⟩
 . rintro⟨j,h1,h2,rfl⟩
   exact⟨⟨j,by omega,h2,rfl⟩,fun e=>by have:=hk j i h2 hi e;omega⟩
theorem ny.none{f:Nat->Cell}{n:Nat}{l:List Cell}(h:ny f n n l):l=[]:=by
 refine List.eq_nil_iff_forall_not_mem.2 fun c hc=> ?_
 obtain⟨j,h1,h2,_⟩:=(h c).1 hc
 omega
end Go.Pl
end
section
namespace Go.Sx
open Go
section
variable[aq]{α:Type}{enc:α->List Value}{sz:Nat}{hs:List Chunk}{T:aB}{t:Nat}
theorem El.uC{P:Program}(hT:T.ok P){x:α}{b o:Nat}(h:El enc sz hs x ⟨b,o,none⟩){pS:List (Nat×Nat)}{m:Nat}(ht:ty T t=some (.struct pS m))(j:Nat){vs:List Value}(hv:((enc x).drop j).take m=vs)(hj:j+m<=sz):
 Ld P hs t ⟨b,o+j,none⟩ (.agg ⟨vs⟩):=by
 obtain⟨h1,b',o',cs,t',fr,ha,hb,hr⟩:=h
 injection ha with e1 e2
 subst e1;subst e2
 refine Ld.struct hT ht hb ?_ (by rw[<-hv,List.length_take,List.length_drop];omega)
 rw[<-hv,<-hr,List.drop_take,List.drop_drop,List.take_take,Nat.min_eq_left (by omega)]
end
end Go.Sx
namespace Go.Pl
open Go Go.Sx
theorem Ff{l:List Cell}(h:rising (keysOf l)){i:Nat}{c x:Cell}(hi:l[i]? =some c)(hk:x.key=c.key):bZ l x=l.set i x:=by
 have hks:keysOf (l.set i x)=keysOf l:=by
  unfold keysOf
  rw[List.map_set,hk]
  obtain⟨hlt,rfl⟩:=List.getElem?_eq_some_iff.1 hi
  apply List.ext_getElem?
  intro j
  rw[List.getElem?_set]
  by_cases e:i=j
  . subst e;rw[if_pos rfl,if_pos (by simpa using hlt),List.getElem?_map,List.getElem?_eq_getElem hlt];rfl
  . rw[if_neg e]
 refine(uA h (by rw[hks];exact h) fun z=> ?_).symm
 obtain⟨hlt,hc⟩:=List.getElem?_eq_some_iff.1 hi
 constructor
 . intro hz
   obtain⟨j,hj⟩:=List.getElem?_of_mem hz
   rw[List.getElem?_set]at hj
   by_cases e:i=j
   . rw[if_pos e,if_pos hlt]at hj;injection hj with hj;exact .inl hj.symm
   . rw[if_neg e]at hj
     refine .inr ⟨List.mem_of_getElem? hj,fun ek=> ?_⟩
     rw[hk]at ek
     rcases Nat.lt_or_gt_of_ne e with h1|h1
     . have:=ey h h1 (bG hi) (bG hj);rw[ek,aC]at this;cases this
     . have:=ey h h1 (bG hj) (bG hi);rw[ek,aC]at this;cases this
 . rintro(rfl|⟨hz,hne⟩)
   . exact List.mem_of_getElem? (i:=i) (by rw[List.getElem?_set,if_pos rfl,if_pos hlt])
   . obtain⟨j,hj⟩:=List.getElem?_of_mem hz
     have e:i≠j:=fun e=>by subst e;rw[hi]at hj;injection hj with hj;exact hne (by rw[<-hj,hk])
     exact List.mem_of_getElem? (i:=j) (by rw[List.getElem?_set_ne e];exact hj)
def AB(l v:Nat)(L:List Cell):Prop:=∀c∈L,∃j,j<l/\c=vZ j v
theorem AB.put{l v:Nat}{L:List Cell}(h:AB l v L)(hr:rising (keysOf L)):AB (l+1) v (bZ L (vZ l v)):=fun c hc=>by
 rcases(eB hr).1 hc with rfl|⟨hc,_⟩
 . exact⟨l,by omega,rfl⟩
 . obtain⟨j,hj,e⟩:=h c hc;exact⟨j,by omega,e⟩
def nL(n s v i:Nat)(L:List Cell):Prop:=∀(q:Nat) (c:Cell),L[q]? =some c->∃j,j<n/\c=vZ j (if q<i then s else v)
theorem nL.zero{n s v:Nat}{L:List Cell}(h:AB n v L):nL n s v 0 L:=fun q c hc=>by
 obtain⟨j,hj,e⟩:=h c (List.mem_of_getElem? hc)
 exact⟨j,hj,by rw[if_neg (by omega)];exact e⟩
theorem nL.step{n s v i k:Nat}{L:List Cell}(h:nL n s v i L)(hi:L[i]? =some (vZ k v))(hk:k<n):nL n s v (i+1) (L.set i (vZ k s)):=fun q c hc=>by
 rw[List.getElem?_set]at hc
 by_cases e:i=q
 . subst e
   rw[if_pos rfl,if_pos (List.getElem?_eq_some_iff.1 hi).1]at hc
   injection hc with hc
   exact⟨k,hk,by rw[if_pos (by omega)];exact hc.symm⟩
 . rw[if_neg e]at hc
   obtain⟨j,hj,e2⟩:=h q c hc
   refine⟨j,hj,e2.trans ?_⟩
   congr 1
   by_cases h1:q<i
   . rw[if_pos h1,if_pos (by omega)]
   . rw[if_neg h1,if_neg (by omega)]
def C8(L:List Cell):Prop:=∀x∈L,x.val.f<2^64/\x.new.f<2^64
theorem C8.put{L:List Cell}(h:C8 L)(hr:rising (keysOf L)){x:Cell}(hx:x.val.f<2^64/\x.new.f<2^64):C8 (bZ L x):=fun c hc=>by
 rcases(eB hr).1 hc with rfl|⟨hc,_⟩
 . exact hx
 . exact h c hc
theorem C8.cut{L:List Cell}(h:C8 L)(k:ByteArray):C8 (ia L k):=fun c hc=>h c ((eG L k c).1 hc).1
def mM(L:List Cell)(i:Nat)(l:List Cell):Prop:=∀c,c∈l↔∃q,L[q]? =some c/\¬∃k,k<i/\(k*7+3)%L.length=q
theorem Eh{L:List Cell}(h:rising (keysOf L)){p q:Nat}{a b:Cell}(ha:L[p]? =some a)(hb:L[q]? =some b)(hk:a.key=b.key):p=q:=by
 rcases Nat.lt_trichotomy p q with h1|h1|h1
 . have:=ey h h1 (bG ha) (bG hb);rw[hk,aC]at this;cases this
 . exact h1
 . have:=ey h h1 (bG hb) (bG ha);rw[hk,aC]at this;cases this
theorem mM.has{L l:List Cell}{i:Nat}(hs:mM L i l)(h:rising (keysOf L)){c:Cell}(hc:L[(i*7+3)%L.length]? =some c):(cq l c.key).isSome= !HZ i L.length:=by
 rw[Bool.eq_iff_iff,o3,Bool.not_eq_true',HZ,decide_eq_false_iff_not]
 constructor
 . rintro⟨z,hz,hk⟩
   obtain⟨q,hq,hn⟩:=(hs z).1 hz
   have:=Eh h hq hc hk
   subst this;exact hn
 . intro hn;exact⟨c,(hs c).2 ⟨_,hc,hn⟩,rfl⟩
theorem mM.cut{L l:List Cell}{i:Nat}(hs:mM L i l)(h:rising (keysOf L)){c:Cell}(hc:L[(i*7+3)%L.length]? =some c):mM L (i+1) (ia l c.key):=fun z=>by
 rw[eG l c.key z,hs z]
 constructor
 . rintro⟨⟨q,hq,hn⟩,hk⟩
   refine⟨q,hq,?_⟩
   rintro⟨k,h1,h2⟩
   by_cases e:k=i
   . subst e
     subst h2;rw[hc]at hq;injection hq with hq;exact hk (by rw[hq])
   . exact hn ⟨k,by omega,h2⟩
 . rintro⟨q,hq,hn⟩
   refine⟨⟨q,hq,fun⟨k,h1,h2⟩=>hn ⟨k,by omega,h2⟩⟩,fun hk=> ?_⟩
   exact hn ⟨i,by omega,(Eh h hc hq hk.symm)⟩
def oJ(L:List Cell)(i:Nat)(l:List Cell):Prop:=∀c∈l,∃q,i<=q/\L[q]? =some c
theorem mM.from{L l:List Cell}{i:Nat}(hs:mM L i l):oJ L 0 l:=fun c hc=>by
 obtain⟨q,hq,_⟩:=(hs c).1 hc;exact⟨q,Nat.zero_le _,hq⟩
theorem oJ.cut{L l:List Cell}{i:Nat}(h:oJ L i l){c:Cell}(hc:L[i]? =some c):oJ L (i+1) (ia l c.key):=fun z hz=>by
 obtain⟨h1,h2⟩:=(eG l c.key z).1 hz
 obtain⟨q,hq,LQ⟩:=h z h1
 refine⟨q,?_,LQ⟩
 rcases Nat.eq_or_lt_of_le hq with e|e
 . subst e;rw[hc]at LQ;injection LQ with LQ;exact absurd (by rw[LQ]) h2
 . exact e
theorem oJ.none{L l:List Cell}(h:oJ L L.length l):l=[]:=by
 refine List.eq_nil_iff_forall_not_mem.2 fun c hc=> ?_
 obtain⟨q,hq,UH⟩:=h c hc
 have:=(List.getElem?_eq_some_iff.1 UH).1
 omega
end Go.Pl
end
