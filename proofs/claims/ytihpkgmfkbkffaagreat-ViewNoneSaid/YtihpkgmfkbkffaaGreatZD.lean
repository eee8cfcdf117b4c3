/- Part 4 of what the proofs of these rest on: Pages, None, Open. -/
import Derived.Test.YtihpkgmfkbkffaaGreatZC
import Derived.Test.YtihpkgmfkbkffaaGreatZB
set_option linter.unusedVariables false
set_option linter.unusedSimpArgs false
set_option linter.unusedSectionVars false
section
namespace Go.Pl
open Go Go.Sx
variable{k:ByteArray}{f:Nat}{Q Q1:ah}{no e:Int}{n:Nd}
theorem yQ(h:bN (aK Q) no= .error e):bB k (f+1) Q no= .error e:=by unfold bB;rw[h];rfl
theorem wI(h:bN (aK Q) no= .ok n)(hl:n.leaf=true)(h2:¬(keysOf n.cells)[aL (keysOf n.cells) k]? =some k):bB k (f+1) Q no= .ok ((false,false),Q):=by
 unfold bB;rw[h];show(if _ then _ else _)=_;rw[if_pos hl,if_neg h2]
theorem o5(h:bN (aK Q) no= .ok n)(hl:n.leaf=true)(h2:(keysOf n.cells)[aL (keysOf n.cells) k]? =some k):
 bB k (f+1) Q no=(iW Q no {n with cells:=bH n.cells (aL (keysOf n.cells) k)} (n.cells.length-1)).bind fun x=> .ok ((true,x.1),x.2):=by
 unfold bB;rw[h];show(if _ then _ else _)=_;rw[if_pos hl,if_pos h2]
theorem q9(h:bN (aK Q) no= .ok n)(hl:n.leaf=false)(h2:bB k f Q (n.kids.getD (bM n.keys k) 0)= .error e):bB k (f+1) Q no= .error e:=by
 unfold bB;rw[h];show(if _ then _ else _)=_;rw[if_neg (by rw[hl];simp),h2];rfl
theorem gr{y:Bool×Bool}(h:bN (aK Q) no= .ok n)(hl:n.leaf=false)(h2:bB k f Q (n.kids.getD (bM n.keys k) 0)= .ok (y,Q1))(h3:y.2=false):bB k (f+1) Q no= .ok ((y.1,false),Q1):=by
 unfold bB;rw[h];show(if _ then _ else _)=_;rw[if_neg (by rw[hl];simp),h2];show(if _ then _ else _)=_;rw[if_pos h3]
def dL(n:Nd)(i:Nat):Nd:={n with keys:=if 0<n.keys.length then bH n.keys (i-1)else n.keys,kids:=bH n.kids i}
theorem lO{y:Bool×Bool}(h:bN (aK Q) no= .ok n)(hl:n.leaf=false)(h2:bB k f Q (n.kids.getD (bM n.keys k) 0)= .ok (y,Q1))(h3:y.2≠false):
 bB k (f+1) Q no=(iW Q1 no (dL n (bM n.keys k)) (n.kids.length-1)).bind fun z=> .ok ((y.1,z.1),z.2):=by
 unfold bB dL;rw[h];show(if _ then _ else _)=_;rw[if_neg (by rw[hl];simp),h2];show(if _ then _ else _)=_;rw[if_neg h3]
theorem dG{α:Type}{xs:List α}{i:Nat}(h:i<xs.length):(bH xs i).length=xs.length-1:=by unfold bH;rw[List.length_append,List.length_take,List.length_drop];omega
theorem Dt{α:Type}{xs:List α}{i:Nat}{z:α}(h:z∈bH xs i):z∈xs:=by
 unfold bH at h
 rcases List.mem_append.1 h with h|h
 . exact List.mem_of_mem_take h
 . exact List.mem_of_mem_drop h
theorem yR(n:Nd)(i:Nat):(dL n i).keys.length<=n.keys.length:=by
 unfold dL;dsimp only;split
 . unfold bH;rw[List.length_append,List.length_take,List.length_drop];omega
 . exact Nat.le_refl _
theorem kC{left:Nat}(h:left=0):iW Q no n left=(kO Q no).bind fun Q1=> .ok (true,Q1):=by unfold iW;rw[if_pos h]
theorem kD{left:Nat}(h:left≠0):iW Q no n left=(ja Q no n).bind fun Q1=> .ok (false,Q1):=by unfold iW;rw[if_neg h]
theorem bz{α β:Type}{x:TE α}{g:α->TE β}(h:x= .error e):x.bind g= .error e:=by rw[h];rfl
theorem aS{α β:Type}{x:TE α}{g:α->TE β}{a:α}(h:x= .ok a):x.bind g=g a:=by rw[h];rfl
theorem yS(h:bN (aK Q) no= .error e):dj (f+1) Q no= .error e:=by unfold dj;rw[h];rfl
theorem ig(h:bN (aK Q) no= .ok n)(hl:n.leaf=true\/1<n.kids.length):dj (f+1) Q no= .ok Q:=by unfold dj;rw[h];show(if _ then _ else _)=_;rw[if_pos hl]
theorem kJ(h:bN (aK Q) no= .ok n)(hl:¬(n.leaf=true\/1<n.kids.length)):dj (f+1) Q no=(kO Q no).bind fun Q1=>dj f (cq Q1 (n.kids.getD 0 0)) (n.kids.getD 0 0):=by
 conv=>lhs;unfold dj
 rw[h];show(if _ then _ else _)=_;rw[if_neg hl]
theorem oM{Q:ah}{m:iU}(h:gO m):lay Q (zA Q (dD Q m) 96)=dD Q m:=by
 have key:∀(l:List Int) (P:ah) (no:Int),(lay P (l.filterMap fun no=>if dD Q m no=Q no then none else some (no,dD Q m no))) no=if no∈l/\dD Q m no≠Q no then dD Q m no else P no:=by
  intro l
  induction l with
  |nil=>intro P no;simp[lay]
  |cons x l ih=>
   intro P no
   rw[List.filterMap_cons]
   by_cases hx:dD Q m x=Q x
   . rw[if_pos hx]
     rw[ih P no]
     by_cases hn:no=x
     . subst hn;rw[if_neg (fun h=>h.2 hx),if_neg (fun h=>h.2 hx)]
     . congr 1;simp[hn]
   . rw[if_neg hx]
     show(lay (ef P x (dD Q m x)) _) no=_
     rw[ih]
     by_cases hn:no=x
     . subst hn
       rw[if_pos (⟨by simp,hx⟩:no∈no::l/\_)]
       split
       . rfl
       . unfold ef;rw[if_pos rfl]
     . have e1:ef P x (dD Q m x) no=P no:=by unfold ef;rw[if_neg hn]
       rw[e1];congr 1;simp[hn]
 funext no
 unfold zA
 rw[key]
 by_cases hn:dD Q m no=Q no
 . rw[if_neg (fun h=>h.2 hn),hn]
 . refine if_pos ⟨?_,hn⟩
   have hm:aD no:=by
    unfold dD at hn
    cases hx:m no with
    |none=>rw[hx]at hn;exact absurd rfl hn
    |some x=>exact(h no x hx).1
   unfold aD at hm
   exact List.mem_map.2 ⟨no.toNat,List.mem_range.2 (by omega),by omega⟩
theorem aV.oM{sT b:Nat}{v:Value}{I:Chunk->Prop}{Qb Qt:ah}{H:Chunk}(h:aV sT b v I Qb Qt H):lay Qb (zA Qb Qt 96)=Qt:=by
 obtain⟨m,hm,rfl⟩:=h;exact Go.Pl.oM hm.may
theorem yj{P:ah}{l:List s_}{i:Nat}{x:s_}(h:l[i]? =some x):lay P (l.take (i+1))=ef (lay P (l.take i)) x.1 x.2:=by
 rw[List.take_add_one,h];unfold lay;rw[List.foldl_append];rfl
theorem yl{H X M G:Chunk}{rest:List Chunk}:(H::((X++M)++G)::rest).flatten.Perm (H::X::M::G::rest).flatten:=List.Perm.of_eq (by simp only[List.flatten_cons,List.append_assoc])
theorem F6{sT b:Nat}{P:Value}{I:Chunk->Prop}{E:Int->Chunk->Prop}{Qb Qs:ah}{bd:Bool}{G:Chunk}(h:St (aV sT b P I Qb Qs) (cI sT b P E) bd G):∃m,i_ sT b P (St I E bd) m G/\(bd=false->dD Qb m=Qs):=by
 cases bd with
 |false=>obtain⟨m,h1,h2⟩:=h;exact⟨m,h1,fun _=>h2.symm⟩
 |true=>obtain⟨_,m,h1⟩:=h;exact⟨m,h1,fun h=>by cases h⟩
theorem LC{sT b:Nat}{P:Value}{I:Chunk->Prop}{E:Int->Chunk->Prop}{Qb Q:ah}{bd:Bool}{m:iU}{G:Chunk}(h:i_ sT b P (St I E bd) m G)(h2:bd=false->dD Qb m=Q):aV sT b P I Qb Q G\/cI sT b P E 0 G:=by
 cases bd with
 |false=>exact .inl ⟨m,h,(h2 rfl).symm⟩
 |true=>exact .inr ⟨m,h⟩
theorem Cd{hs:List Chunk}{v:Value}{ts:List Im}{x:Im}(h:mS hs v ts)(hx:x∈ts):dy (rP x)=true:=by
 have:=sW (h.each x hx)
 show(true&&(gU x.v&&true))=true
 rw[this];rfl
end Go.Pl
end
section
namespace Go.Pl
open Go Go.Sx
theorem jU{H X Y:Chunk}{rest:List Chunk}:(H::(X++Y)::rest).flatten.Perm (H::X::Y::rest).flatten:=List.Perm.of_eq (by simp only[List.flatten_cons,List.append_assoc])
theorem F7{H X Y:Chunk}{rest:List Chunk}:(X::Y::H::rest).flatten.Perm (H::(Y++X)::rest).flatten:=by
 simp only[List.flatten_cons,List.append_assoc]
 refine(List.perm_append_comm_assoc X Y _).trans ?_
 refine(List.Perm.append_left Y (List.perm_append_comm_assoc X H _)).trans ?_
 exact List.perm_append_comm_assoc Y H _
theorem aN.zW[au]{P:Program}{f:Nat}{vs:List Value}{hs:List Chunk}{N N' E E':Value->List Chunk->Prop}(h:aN P f vs hs N E)(hn:∀v dF,N v dF->∃kX,N' v kX/\dF.flatten.Perm kX.flatten)(he:∀v dF,E v dF->∃kX,E' v kX/\dF.flatten.Perm kX.flatten):aN P f vs hs N' E':=fun w hm=>
 (h w hm).mono fun _ _ h=>by
  rcases h with⟨v,dF,e,hN,hM⟩|⟨v,dF,e,hN,hM⟩
  . obtain⟨kX,h2,hp⟩:=hn _ _ hN;exact .inl ⟨v,kX,e,h2,hM.perm hp⟩
  . obtain⟨kX,h2,hp⟩:=he _ _ hN;exact .inr ⟨v,kX,e,h2,hM.perm hp⟩
theorem f_{pg:Pg}{no:Int}(h:b6 pg= .ok no):no=0\/ay no:=by
 unfold b6 at h
 cases hp:mT pg 1 with
 |error e=>rw[hp]at h;cases h
 |ok bs=>
  rw[hp]at h
  have h:(if(jB (pg 1)).2=0 then(.ok (jB (pg 1)).1:TE Int)else .error 8)= .ok no:=h
  by_cases hx:(jB (pg 1)).2=0
  . rw[if_pos hx]at h
    injection h with h
    unfold jB at h hx
    dsimp only at h hx
    split at h
    . exact .inl h.symm
    . rename_i h1
      rw[if_neg h1]at hx
      split at h
      . exact .inl h.symm
      . rename_i h2
        dsimp only at h
        by_cases hz:no=0
        . exact .inl hz
        . refine .inr (Decidable.byContradiction fun hu=>h2 ⟨by rw[h];exact hz,by rw[h];exact hu⟩)
  . rw[if_neg hx]at h;cases h
section
variable{Q:ah}{x:Cell}{no e:Int}
theorem AH(h:b6 (aK Q)= .error e):dg Q x= .error e:=by unfold dg;exact bz h
theorem kE(h:b6 (aK Q)= .ok no)(h0:no=0):dg Q x=(fA Q).bind fun y=>ja (cq y.2 y.1) y.1 ⟨true,[x],[],[]⟩:=by
 unfold dg;refine(aS h).trans ?_;exact if_pos h0
theorem mE(h:b6 (aK Q)= .ok no)(h0:no≠0):dg Q x=(bF x 32 Q no).bind fun y=>
 if y.1.2=0 then .ok y.2 else(fA y.2).bind fun z=>(ja z.2 z.1 ⟨false,[],[y.1.1],[no,y.1.2]⟩).bind fun Q3=> .ok (cq Q3 z.1):=by
 unfold dg;refine(aS h).trans ?_;exact if_neg h0
theorem nG{y:Part}{Q1:ah}(h:b6 (aK Q)= .ok no)(h0:no≠0)(h1:bF x 32 Q no= .ok (y,Q1))(h2:y.2=0):dg Q x= .ok Q1:=by
 rw[mE h h0];refine(aS h1).trans ?_;exact if_pos h2
theorem kF{y:Part}{Q1:ah}(h:b6 (aK Q)= .ok no)(h0:no≠0)(h1:bF x 32 Q no= .ok (y,Q1))(h2:y.2≠0):dg Q x=(fA Q1).bind fun z=>(ja z.2 z.1 ⟨false,[],[y.1],[no,y.2]⟩).bind fun Q3=> .ok (cq Q3 z.1):=by
 rw[mE h h0];refine(aS h1).trans ?_;exact if_neg h2
variable{k:ByteArray}
theorem AJ(h:b6 (aK Q)= .error e):cN Q k= .error e:=by unfold cN;exact bz h
theorem qP(h:b6 (aK Q)= .ok no)(h0:no=0):cN Q k= .ok (false,Q):=by unfold cN;refine(aS h).trans ?_;exact if_pos h0
theorem mF(h:b6 (aK Q)= .ok no)(h0:no≠0):cN Q k=(bB k 32 Q no).bind fun x=>
 if x.1.2=true then .ok (x.1.1,cq x.2 0)
 else if x.1.1=true then(dj 32 x.2 no).bind fun Q1=> .ok (true,Q1)else .ok (false,x.2):=by
 unfold cN;refine(aS h).trans ?_;exact if_neg h0
theorem qQ{y:Bool×Bool}{Q1:ah}(h:b6 (aK Q)= .ok no)(h0:no≠0)(h1:bB k 32 Q no= .ok (y,Q1))(h2:y.2=true):cN Q k= .ok (y.1,cq Q1 0):=by
 rw[mF h h0];refine(aS h1).trans ?_;exact if_pos h2
theorem nH{y:Bool×Bool}{Q1:ah}(h:b6 (aK Q)= .ok no)(h0:no≠0)(h1:bB k 32 Q no= .ok (y,Q1))(h2:y.2=false)(h3:y.1=true):cN Q k=(dj 32 Q1 no).bind fun Q2=> .ok (true,Q2):=by
 rw[mF h h0];refine(aS h1).trans ?_
 show(if _ then _ else _)=_
 rw[if_neg (by dsimp only;rw[h2];simp)];exact if_pos h3
theorem sX{y:Bool×Bool}{Q1:ah}(h:b6 (aK Q)= .ok no)(h0:no≠0)(h1:bB k 32 Q no= .ok (y,Q1))(h2:y.2=false)(h3:y.1=false):cN Q k= .ok (false,Q1):=by
 rw[mF h h0];refine(aS h1).trans ?_
 show(if _ then _ else _)=_
 rw[if_neg (by dsimp only;rw[h2];simp)];exact if_neg (by dsimp only;rw[h3];simp)
end
end Go.Pl
end
section
namespace Go.Pl
open Go Go.Sx
section
variable{pg:Pg}{k:ByteArray}{f:Nat}{no e:Int}{n:Nd}
theorem mG:qC pg k (f+1) no=if no=0 then .ok none else(bN pg no).bind fun n=>if n.leaf=true then .ok (cellOf n.cells k)else qC pg k f (n.kids.getD (bM n.keys k) 0):=rfl
theorem uK(h:no=0):qC pg k (f+1) no= .ok none:=by rw[mG];exact if_pos h
theorem F8(h0:no≠0)(h:bN pg no= .error e):qC pg k (f+1) no= .error e:=by rw[mG,if_neg h0];exact bz h
theorem qc(h0:no≠0)(h:bN pg no= .ok n)(hl:n.leaf=true):qC pg k (f+1) no= .ok (cellOf n.cells k):=by
 rw[mG,if_neg h0];refine(aS h).trans ?_;exact if_pos hl
theorem ym(h0:no≠0)(h:bN pg no= .ok n)(hl:n.leaf=false):qC pg k (f+1) no=qC pg k f (n.kids.getD (bM n.keys k) 0):=by
 have hl:¬n.leaf=true:=by rw[hl];simp
 rw[mG,if_neg h0];refine(aS h).trans ?_;exact if_neg hl
theorem AK(h:b6 pg= .error e):getTop pg k= .error e:=by unfold getTop;exact bz h
theorem qd(h:b6 pg= .ok no):getTop pg k=qC pg k 32 no:=by unfold getTop;exact aS h
theorem uL{cells:List Cell}{z:Cell}(h1:cells[aL (keysOf cells) k]? =some z)(h2:z.key=k):cellOf cells k=some z:=by
 unfold cellOf;rw[h1];exact if_pos h2
theorem jh{cells:List Cell}(h:¬(keysOf cells)[aL (keysOf cells) k]? =some k):cellOf cells k=none:=by
 unfold cellOf
 unfold keysOf at h⊢
 rw[List.getElem?_map]at h
 split
 . rename_i c hc
   refine if_neg fun e=>h ?_
   rw[hc,Option.map_some,e]
 . rfl
end
end Go.Pl
end
section
namespace Go.Pl
open Go Go.Sx
noncomputable def eM(pg:Pg)(f:Nat)(kids:List Int)(st:aG):TE aG:=kids.foldl (fun r ct=>r.bind (aZ pg f ct)) (.ok st)
section
variable{pg:Pg}{f:Nat}{no e:Int}{st g:aG}{n:Nd}{l l2:List Int}{x:Int}
theorem eT:aZ pg (f+1) no st=if 32<=st.1.length\/no∈st.1 then .error 8 else(bN pg no).bind fun n=>eM pg f n.kids (st.1++[no],st.2++n.cells):=rfl
theorem qR(h:32<=st.1.length\/no∈st.1):aZ pg f no st= .error 8:=by
 cases f with
 |zero=>rfl
 |succ f=>rw[eT];exact if_pos h
theorem yT(h:¬(32<=st.1.length\/no∈st.1))(hr:bN pg no= .error e):aZ pg (f+1) no st= .error e:=by rw[eT,if_neg h];exact bz hr
theorem kG(h:¬(32<=st.1.length\/no∈st.1))(hr:bN pg no= .ok n):aZ pg (f+1) no st=eM pg f n.kids (st.1++[no],st.2++n.cells):=by rw[eT,if_neg h];exact aS hr
theorem uM:eM pg f [] st= .ok st:=rfl
theorem iy:eM pg f (l++l2) st=(eM pg f l st).bind (eM pg f l2):=by
 unfold eM
 rw[List.foldl_append]
 cases h:l.foldl (fun r ct=>r.bind (aZ pg f ct)) (.ok st:TE aG)with
 |ok g=>rfl
 |error e=>
  show l2.foldl _ (.error e:TE aG)=(.error e:TE aG)
  clear h
  induction l2 with
  |nil=>rfl
  |cons y l2 ih=>exact ih
theorem jV:eM pg f [x] st=aZ pg f x st:=rfl
theorem nI{i:Nat}(hi:l[i]? =some x)(h:eM pg f (l.take i) st= .ok g):eM pg f (l.take (i+1)) st=aZ pg f x g:=by
 rw[List.take_add_one,hi,iy,h]
 exact jV
theorem AL{i:Nat}(h:eM pg f (l.take i) st= .error e):eM pg f l st= .error e:=by
 rw[<-List.take_append_drop i l,iy,h];rfl
def Kx(st g:aG):Prop:=st.1.length<=g.1.length/\g.1.length<=32/\g.2.length<=256*g.1.length
theorem o6:∀{f:Nat} {no:Int} {st g:aG},st.2.length<=256*st.1.length->aZ pg f no st= .ok g->Kx st g/\st.1.length<g.1.length:=by
 intro f
 induction f with
 |zero=>intro no st g _ h;cases h
 |succ f ih=>
  intro no st g hs h
  rw[eT]at h
  split at h
  . cases h
  . rename_i hb
    cases hr:bN pg no with
    |error e=>rw[hr]at h;cases h
    |ok n=>
     rw[hr]at h
     have hnc:=(fU hr).nd.cells
     have hk:∀(l:List Int) (s1 g:aG),s1.2.length<=256*s1.1.length->s1.1.length<=32->eM pg f l s1= .ok g->Kx s1 g:=by
      intro l
      induction l with
      |nil=>intro s1 g h1 h2 h;injection h with h;subst h;exact⟨Nat.le_refl _,h2,h1⟩
      |cons y l ihl=>
       intro s1 g h1 h2 h
       have h:(aZ pg f y s1).bind (eM pg f l)= .ok g:=by
        have:=iy (pg:=pg) (f:=f) (l:=[y]) (l2:=l) (st:=s1)
        rw[jV]at this;rw[<-this];exact h
       cases ht:aZ pg f y s1 with
       |error e=>rw[ht]at h;cases h
       |ok g1=>
        rw[ht]at h
        obtain⟨⟨a,b,c⟩,_⟩:=ih h1 ht
        obtain⟨a2,b2,c2⟩:=ihl g1 g c b h
        exact⟨by omega,b2,c2⟩
     have hb:¬32<=st.1.length:=fun e=>hb (.inl e)
     obtain⟨a,b,c⟩:=hk n.kids _ g (by simp only[List.length_append,List.length_singleton];omega) (by simp only[List.length_append,List.length_singleton];omega) h
     simp only[List.length_append,List.length_singleton]at a
     exact⟨⟨by omega,b,c⟩,by omega⟩
theorem AM{st g:aG}(h1:st.2.length<=256*st.1.length)(h2:st.1.length<=32)(h:eM pg f l st= .ok g):Kx st g:=by
 induction l generalizing st with
 |nil=>injection h with h;subst h;exact⟨Nat.le_refl _,h2,h1⟩
 |cons y l ih=>
  have h:(aZ pg f y st).bind (eM pg f l)= .ok g:=by
   have:=iy (pg:=pg) (f:=f) (l:=[y]) (l2:=l) (st:=st)
   rw[jV]at this;rw[<-this];exact h
  cases ht:aZ pg f y st with
  |error e=>rw[ht]at h;cases h
  |ok g1=>
   rw[ht]at h
   obtain⟨⟨a,b,c⟩,_⟩:=o6 h1 ht
   obtain⟨a2,b2,c2⟩:=ih c b h
   exact⟨by omega,b2,c2⟩
theorem sq(h:b6 pg= .error e):fB pg= .error e:=by unfold fB;exact bz h
theorem mH(h:b6 pg= .ok no)(h0:no=0):fB pg= .ok ([],[]):=by unfold fB;refine(aS h).trans ?_;exact if_neg (fun h=>h h0)
theorem oA(h:b6 pg= .ok no)(h0:no≠0):fB pg=aZ pg 32 no ([],[]):=by unfold fB;refine(aS h).trans ?_;exact if_pos h0
theorem oN{g:aG}(h:fB pg= .ok g):g.1.length<=32/\g.2.length<=8192:=by
 cases hr:b6 pg with
 |error e=>rw[sq hr]at h;cases h
 |ok no=>
  by_cases h0:no=0
  . rw[mH hr h0]at h;injection h with h;subst h;exact⟨by simp,by simp⟩
  . rw[oA hr h0]at h
    obtain⟨⟨_,h2,h3⟩,_⟩:=o6 (by simp) h
    exact⟨h2,by omega⟩
theorem tq.lE{n:Nd}(h:tq n){x:Int}(hx:x∈n.kids):ay x:=by
 cases hl:n.leaf with
 |true=>rw[(h.leaf hl).2]at hx;cases hx
 |false=>exact(h.ways hl).2 x hx
end
end Go.Pl
end
section
namespace Go.Pl
open Go Go.Sx
def Deep(pg:Pg):Nat->Int->Prop
 |0,_=>False
 |f+1,no=>∀n,bN pg no= .ok n->∀k∈n.kids,Deep pg f k
theorem F9{pg:Pg}{f:Nat}{l:List Int}{st g:aG}(h:eM pg f l st= .ok g){x:Int}(hx:x∈l):∃s1 g1,aZ pg f x s1= .ok g1:=by
 induction l generalizing st with
 |nil=>cases hx
 |cons y l ih=>
  have h:(aZ pg f y st).bind (eM pg f l)= .ok g:=by
   have:=iy (pg:=pg) (f:=f) (l:=[y]) (l2:=l) (st:=st)
   rw[jV]at this;rw[<-this];exact h
  cases ht:aZ pg f y st with
  |error e=>rw[ht]at h;cases h
  |ok g1=>
   rw[ht]at h
   rcases List.mem_cons.1 hx with rfl|hx
   . exact⟨_,_,ht⟩
   . exact ih h hx
theorem Il{pg:Pg}:∀{f:Nat} {no:Int} {st g:aG},aZ pg f no st= .ok g->Deep pg f no:=by
 intro f
 induction f with
 |zero=>intro no st g h;cases h
 |succ f ih=>
  intro no st g h n hn k hk
  rw[eT]at h
  split at h
  . cases h
  . rw[hn]at h
    obtain⟨s1,g1,h1⟩:=F9 h hk
    exact ih h1
noncomputable def Bn(pg:Pg)(f:Nat)(n:Nd)(lo hi:ByteArray)(r:TE Int)(i:Nat):TE Int:=
 r.bind fun deep=>(dP pg f (n.kids.getD i 0) (b7 n.keys lo i) (bE n.keys hi i) false).bind fun d=>if deep<0\/d=deep then .ok d else .error 8
noncomputable def iX(pg:Pg)(f:Nat)(n:Nd)(lo hi:ByteArray)(m:Nat):TE Int:=(List.range m).foldl (Bn pg f n lo hi) (.ok (-1))
section
variable{pg:Pg}{f:Nat}{no e:Int}{n:Nd}{lo hi:ByteArray}{top:Bool}
theorem gH:dP pg (f+1) no lo hi top=(bN pg no).bind fun n=>
 if n.leaf=true then if top=true\/0<n.cells.length then if n.cells.all fun c=>bW c.key lo hi then .ok 0 else .error 8 else .error 8
 else(iX pg f n lo hi n.kids.length).bind fun deep=> .ok (deep+1):=rfl
theorem AN(h:bN pg no= .error e):dP pg (f+1) no lo hi top= .error e:=by rw[gH];exact bz h
theorem yU(h:bN pg no= .ok n)(hl:n.leaf=true)(h2:¬(top=true\/0<n.cells.length)):dP pg (f+1) no lo hi top= .error 8:=by
 rw[gH];refine(aS h).trans ?_;exact(if_pos hl).trans (if_neg h2)
theorem sY(h:bN pg no= .ok n)(hl:n.leaf=true)(h2:top=true\/0<n.cells.length){c:Cell}(hc:c∈n.cells)(hk:bW c.key lo hi=false):dP pg (f+1) no lo hi top= .error 8:=by
 rw[gH];refine(aS h).trans ?_
 refine(if_pos hl).trans ((if_pos h2).trans (if_neg fun ha=> ?_))
 have:=List.all_eq_true.1 ha c hc
 rw[hk]at this;cases this
theorem lP(h:bN pg no= .ok n)(hl:n.leaf=true)(h2:top=true\/0<n.cells.length)(ha:∀c∈n.cells,bW c.key lo hi=true):dP pg (f+1) no lo hi top= .ok 0:=by
 rw[gH];refine(aS h).trans ?_
 exact(if_pos hl).trans ((if_pos h2).trans (if_pos (List.all_eq_true.2 ha)))
theorem dn(h:bN pg no= .ok n)(hl:n.leaf=false):dP pg (f+1) no lo hi top=(iX pg f n lo hi n.kids.length).bind fun deep=> .ok (deep+1):=by
 have hl:¬n.leaf=true:=by rw[hl];simp
 rw[gH];refine(aS h).trans ?_;exact if_neg hl
theorem AO:iX pg f n lo hi 0= .ok (-1):=rfl
theorem nJ(m:Nat):iX pg f n lo hi (m+1)=Bn pg f n lo hi (iX pg f n lo hi m) m:=by unfold iX;rw[List.range_succ,List.foldl_append];rfl
theorem eD{m M:Nat}(hm:m<=M)(h:iX pg f n lo hi m= .error e):iX pg f n lo hi M= .error e:=by
 induction M with
 |zero=>obtain rfl:m=0:=by omega
        exact h
 |succ M ih=>
  by_cases hM:m=M+1
  . subst hM;exact h
  . rw[nJ,ih (by omega)];rfl
variable{m:Nat}{d d2:Int}{PJ hi2:ByteArray}
theorem mI(h:iX pg f n lo hi m= .ok d)(hk:n.kids[m]? =some no)(h1:b7 n.keys lo m=PJ)(h2:bE n.keys hi m=hi2)(hc:dP pg f no PJ hi2 false= .error e):iX pg f n lo hi (m+1)= .error e:=by
 rw[nJ,h]
 unfold Bn
 rw[List.getD_eq_getElem?_getD,hk,h1,h2]
 exact(aS rfl).trans (bz hc)
theorem iR(h:iX pg f n lo hi m= .ok d)(hk:n.kids[m]? =some no)(h1:b7 n.keys lo m=PJ)(h2:bE n.keys hi m=hi2)(hc:dP pg f no PJ hi2 false= .ok d2):iX pg f n lo hi (m+1)=if d<0\/d2=d then .ok d2 else .error 8:=by
 rw[nJ,h]
 unfold Bn
 rw[List.getD_eq_getElem?_getD,hk,h1,h2]
 exact(aS rfl).trans (aS hc)
theorem wh(h:0<m){k:ByteArray}(hk:n.keys[m-1]? =some k):b7 n.keys lo m=k:=by unfold b7;rw[if_pos h,List.getD_eq_getElem?_getD,hk];rfl
theorem Ce(h:¬0<m):b7 n.keys lo m=lo:=by unfold b7;rw[if_neg h]
theorem oO(h:m<n.keys.length){k:ByteArray}(hk:n.keys[m]? =some k):bE n.keys hi m=k:=by unfold bE;rw[if_pos h,List.getD_eq_getElem?_getD,hk];rfl
theorem sr(h:¬m<n.keys.length):bE n.keys hi m=hi:=by unfold bE;rw[if_neg h]
end
end Go.Pl
end
section
namespace Go.Pl
open Go Go.Sx
def z7(bs:List UInt8)(g:aG)(m:Nat):Prop:=∀no:Nat,no<m->hasB bs (no:Nat)=decide ((no:Int)∈g.1)
section
variable{pg:Pg}{e d:Int}{g:aG}
noncomputable def iK(pg:Pg)(g:aG):TE Int:=if g.1=[]then .ok 0 else dP pg 32 (g.1.getD 0 0) ⟨#[]⟩ ⟨#[]⟩ true
theorem gI:dQ pg=(fB pg).bind fun g=>(iK pg g).bind fun _=>
 if(bn (pg 1)).1≠0 then .error (bn (pg 1)).1
 else if(List.range 32).all fun no=>hasB (bn (pg 1)).2 (no:Nat)==decide ((no:Int)∈g.1)then .ok ()else .error 8:=rfl
theorem wJ(h:fB pg= .error e):dQ pg= .error e:=by rw[gI];exact bz h
theorem tg(h:fB pg= .ok g)(h2:iK pg g= .error e):dQ pg= .error e:=by rw[gI];exact(aS h).trans (bz h2)
theorem tW(h:fB pg= .ok g)(h2:iK pg g= .ok d)(h3:(bn (pg 1)).1=e)(he:e≠0):dQ pg= .error e:=by
 rw[gI];refine(aS h).trans ((aS h2).trans ((if_pos (by rw[h3];exact he)).trans (by rw[h3])))
theorem tX(h:fB pg= .ok g)(h2:iK pg g= .ok d)(h3:(bn (pg 1)).1=0){i:Nat}(hi:i<32)(hm:¬hasB (bn (pg 1)).2 (i:Nat)=decide ((i:Int)∈g.1)):dQ pg= .error 8:=by
 rw[gI];refine(aS h).trans ((aS h2).trans ((if_neg (by rw[h3];simp)).trans (if_neg fun ha=>hm ?_)))
 exact beq_iff_eq.1 (List.all_eq_true.1 ha i (List.mem_range.2 hi))
theorem qS(h:fB pg= .ok g)(h2:iK pg g= .ok d)(h3:(bn (pg 1)).1=0)(hm:z7 (bn (pg 1)).2 g 32):dQ pg= .ok ():=by
 rw[gI];refine(aS h).trans ((aS h2).trans ((if_neg (by rw[h3];simp)).trans (if_pos ?_)))
 exact List.all_eq_true.2 fun i hi=>beq_iff_eq.2 (hm i (List.mem_range.1 hi))
theorem sZ(h:g.1=[]):iK pg g= .ok 0:=by unfold iK;rw[if_pos h]
theorem lQ(h:g.1≠[]):iK pg g=dP pg 32 (g.1.getD 0 0) ⟨#[]⟩ ⟨#[]⟩ true:=by unfold iK;rw[if_neg h]
theorem Du{f:Nat}(ih:∀{no:Int} {st g:aG},aZ pg f no st= .ok g->∃l,g.1=st.1++no::l){l:List Int}{st g:aG}(h:eM pg f l st= .ok g):∃l2,g.1=st.1++l2:=by
 induction l generalizing st with
 |nil=>injection h with h;subst h;exact⟨[],by simp⟩
 |cons y l ihl=>
  have h:(aZ pg f y st).bind (eM pg f l)= .ok g:=by
   have:=iy (pg:=pg) (f:=f) (l:=[y]) (l2:=l) (st:=st)
   rw[jV]at this;rw[<-this];exact h
  cases ht:aZ pg f y st with
  |error e=>rw[ht]at h;cases h
  |ok g1=>
   rw[ht]at h
   obtain⟨l1,h1⟩:=ih ht
   obtain⟨l2,h2⟩:=ihl h
   exact⟨y::l1++l2,by rw[h2,h1,List.append_assoc]⟩
theorem yV{f:Nat}:∀{no:Int} {st g:aG},aZ pg f no st= .ok g->∃l,g.1=st.1++no::l:=by
 induction f with
 |zero=>intro no st g h;cases h
 |succ f ih=>
  intro no st g h
  rw[eT]at h
  split at h
  . cases h
  . cases hr:bN pg no with
    |error e=>rw[hr]at h;cases h
    |ok n=>
     rw[hr]at h
     obtain⟨l,hl⟩:=Du ih h
     exact⟨l,by rw[hl];simp⟩
theorem Dv(h:fB pg= .ok g):(g.1=[]/\g.2=[])\/∃no l,g.1=no::l/\ay no/\Deep pg 32 no:=by
 cases hr:b6 pg with
 |error e=>rw[sq hr]at h;cases h
 |ok no=>
  by_cases h0:no=0
  . rw[mH hr h0]at h;injection h with h;subst h;exact .inl ⟨rfl,rfl⟩
  . rw[oA hr h0]at h
    obtain⟨l,hl⟩:=yV h
    exact .inr ⟨no,l,hl,(f_ hr).resolve_left h0,Il h⟩
end
end Go.Pl
end
section
namespace Go.Pl
open Go Go.Sx
theorem cJ{k lo hi:ByteArray}:bW k lo hi=true↔cC k lo=false/\(hi=⟨#[]⟩\/cC k hi=true):=by
 unfold bW
 simp only[Bool.and_eq_true,Bool.not_eq_true',Bool.or_eq_true,decide_eq_true_eq]
theorem AP{a b:List ByteArray}(ha:rising a)(hb:rising b)(h:∀x∈a,∀y∈b,cC x y=true):rising (a++b):=List.pairwise_append.2 ⟨ha,hb,h⟩
section
variable{pg:Pg}
def Ordered(lo hi:ByteArray)(cs:List Cell):Prop:=rising (keysOf cs)/\∀c∈cs,bW c.key lo hi=true
theorem Ordered.join{lo K hi:ByteArray}{a b:List Cell}(hK:K≠⟨#[]⟩)(ha:Ordered lo K a)(hb:Ordered K hi b)(ha0:a≠[])(hb0:b≠[]):Ordered lo hi (a++b):=by
 have hlt:∀x∈a,∀y∈b,cC x.key y.key=true:=fun x hx y hy=>by
  have h1:=(cJ.1 (ha.2 x hx)).2.resolve_left hK
  have h2:=(cJ.1 (hb.2 y hy)).1
  exact E9 h1 h2
 obtain⟨x0,hx0⟩:=List.exists_mem_of_ne_nil a ha0
 obtain⟨y0,hy0⟩:=List.exists_mem_of_ne_nil b hb0
 refine⟨?_,fun c hc=> ?_⟩
 . unfold keysOf;rw[List.map_append]
   refine AP ha.1 hb.1 fun x hx y hy=> ?_
   obtain⟨c,hc,rfl⟩:=List.mem_map.1 hx
   obtain⟨d,hd,rfl⟩:=List.mem_map.1 hy
   exact hlt c hc d hd
 . rcases List.mem_append.1 hc with hc|hc
   . refine cJ.2 ⟨(cJ.1 (ha.2 c hc)).1,?_⟩
     rcases(cJ.1 (hb.2 y0 hy0)).2 with h|h
     . exact .inl h
     . exact .inr (bD (hlt c hc y0 hy0) h)
   . refine cJ.2 ⟨?_,(cJ.1 (hb.2 c hc)).2⟩
     have h1:=(cJ.1 (ha.2 x0 hx0)).1
     have h2:=hlt x0 hx0 c hc
     cases h3:cC c.key lo with
     |false=>rfl
     |true=>rw[bD h2 h3]at h1;cases h1
def T3(pg:Pg):Prop:=∀no,aD no->(pg no).1=0
end
end Go.Pl
end
section
namespace Go.Pl
open Go Go.Sx
theorem lF{bs:List UInt8}{m:Int}(h:hasB bs m=true):ay m:=by
 unfold hasB at h;rw[Bool.and_eq_true]at h;exact of_decide_eq_true h.1
theorem j9{m:Int}(h:ay m):∃n:Nat,m=(n:Nat)/\2<=n/\n<32:=by
 unfold ay at h;exact⟨m.toNat,by omega,by omega,by omega⟩
theorem dK{Q:ah}{no:Int}{b:List UInt8}:ef Q no b no=b:=by unfold ef;exact if_pos rfl
theorem bS{Q:ah}{no m:Int}{b:List UInt8}(h:m≠no):ef Q no b m=Q m:=by unfold ef;exact if_neg h
structure jG(Q:ah)(r:Int)(u:Int->Prop):Prop where
 len:(Q 1).length=256
 root:rootOf (Q 1)=r
 bit:∀m,hasB (Q 1) m=true↔u m
theorem jG.may{Q:ah}{r:Int}{u:Int->Prop}(h:jG Q r u){m:Int}(hm:u m):ay m:=lF ((h.bit m).2 hm)
theorem jG.other{Q Q':ah}{r:Int}{u:Int->Prop}(h:jG Q r u)(e:Q' 1=Q 1):jG Q' r u:=⟨by rw[e];exact h.len,by rw[e];exact h.root,by rw[e];exact h.bit⟩
theorem jG.iff{Q:ah}{r:Int}{u u':Int->Prop}(h:jG Q r u)(e:∀m,u m↔u' m):jG Q r u':=⟨h.len,h.root,fun m=>(h.bit m).trans (e m)⟩
theorem yo{bs:List UInt8}(hl:bs.length=256){n:Nat}(hn:n<32){c:UInt8}:rootOf (bs.set (n/8) c)=rootOf bs:=by
 unfold rootOf;rw[lD (by omega),if_neg (by omega)]
theorem jG.take{Q:ah}{r:Int}{u:Int->Prop}(h:jG Q r u):
 (∃n Q',fA Q= .ok (n,Q')/\ay n/\¬u n/\jG Q' r (fun m=>m=n\/u m)/\(∀m,m≠1->m≠n->Q' m=Q m))\/(fA Q= .error 4/\∀m,ay m->u m):=by
 cases ht:k8 (Q 1)with
 |none=>
  refine .inr ⟨by unfold fA;rw[ht],fun m hm=> ?_⟩
  obtain⟨n,rfl,h1,h2⟩:=j9 hm
  unfold k8 at ht
  rw[List.find?_eq_none]at ht
  have:=ht n (List.mem_range'_1.2 ⟨h1,by omega⟩)
  exact(h.bit _).1 (by simpa using this)
 |some n=>
  obtain⟨h1,h2,h3⟩:=yd ht
  refine .inl ⟨(n:Nat),_,by unfold fA;rw[ht],by unfold ay;omega,fun hu=> ?_,⟨?_,?_,fun m=> ?_⟩,fun m pE hmn=> ?_⟩
  . have:=(h.bit _).2 hu;rw[h3]at this;cases this
  . rw[bS (by omega),dK,yb];exact h.len
  . rw[bS (by omega),dK];unfold wW;rw[yo h.len h2];exact h.root
  . rw[bS (by omega),dK]
    by_cases hm:ay m
    . obtain⟨k,rfl,h4,h5⟩:=j9 hm
      rw[FY h.len h2,Bool.or_eq_true,Bool.and_eq_true,decide_eq_true_eq,decide_eq_true_eq]
      constructor
      . rintro(⟨_,e⟩|e)
        . exact .inl (by omega)
        . exact .inr ((h.bit _).1 e)
      . rintro(e|e)
        . exact .inl ⟨hm,by omega⟩
        . exact .inr ((h.bit _).2 e)
    . constructor
      . intro e;exact absurd (lF e) hm
      . rintro(e|e)
        . exact absurd (by rw[e];unfold ay;omega) hm
        . exact absurd (h.may e) hm
  . rw[bS hmn,bS pE]
theorem jG.free{Q:ah}{r:Int}{u:Int->Prop}(h:jG Q r u){no:Int}(hu:u no):
 ∃Q',kO Q no= .ok Q'/\jG Q' r (fun m=>u m/\m≠no)/\(∀m,m≠1->Q' m=Q m):=by
 obtain⟨n,rfl,h1,h2⟩:=j9 (h.may hu)
 refine⟨_,by unfold kO;rw[if_pos ((h.bit _).2 hu)],⟨?_,?_,fun m=> ?_⟩,fun m pE=>bS pE⟩
 . rw[dK,yc];exact h.len
 . rw[dK];unfold wX;rw[Int.toNat_natCast,yo h.len h2];exact h.root
 . rw[dK]
   by_cases hm:ay m
   . obtain⟨k,rfl,h4,h5⟩:=j9 hm
     rw[Int.toNat_natCast,FZ h.len h2,Bool.and_eq_true,Bool.not_eq_true',decide_eq_false_iff_not,h.bit]
     constructor
     . rintro⟨a,b⟩;exact⟨b,by omega⟩
     . rintro⟨a,b⟩;exact⟨by omega,a⟩
   . constructor
     . intro e;exact absurd (lF e) hm
     . rintro⟨e,_⟩;exact absurd (h.may e) hm
theorem jG.set{Q:ah}{r:Int}{u:Int->Prop}(h:jG Q r u){no:Int}(h1:0<=no)(h2:no<256):jG (cq Q no) no u/\∀m,m≠1->cq Q no m=Q m:=by
 have hl:=h.len
 refine⟨⟨?_,?_,fun m=> ?_⟩,fun m hm=>bS hm⟩
 . unfold cq;rw[dK,List.length_set];exact hl
 . unfold cq rootOf;rw[dK,lD (by omega),if_pos rfl,UInt8.toNat_ofNat'];omega
 . rw[<-h.bit m]
   by_cases hm:ay m
   . obtain⟨k,rfl,h4,h5⟩:=j9 hm
     unfold cq hasB;rw[dK,Int.toNat_natCast,lD (by omega),if_neg (by omega)]
   . constructor<;>intro e<;>exact absurd (lF e) hm
theorem jG.b6{Q:ah}{r:Int}{u:Int->Prop}(h:jG Q r u)(hr:r=0\/ay r):b6 (aK Q)= .ok r:=by
 have h1:aK Q 1=(0,Q 1):=by unfold aK;rw[if_pos (by decide)]
 have hw:bn (aK Q 1)=(0,Q 1):=by rw[h1];unfold bn;rw[if_neg (by simp),if_neg (by dsimp only;rw[h.len];simp)]
 have hx:jB (aK Q 1)=(r,0):=by
  unfold jB;rw[hw];dsimp only
  rw[if_neg (by simp),h.root,if_neg]
  rintro⟨a,b⟩;exact hr.elim a b
 unfold Go.Pl.b6 mT
 rw[hx,h1,if_pos rfl];rfl
theorem dZ{Q:ah}{no:Int}{n:Nd}(hn:ay no)(h:bC (Q no) n):bN (aK Q) no= .ok n:=by
 unfold bN mT
 have hm:=jM hn
 have:aK Q no=(0,Q no):=by unfold aK;rw[if_pos hm]
 rw[this,if_pos rfl]
 exact Cb h
theorem eB{Q:ah}{no:Int}{n:Nd}(h:kN n):bC (ef Q no (bU n).1 no) n:=by rw[dK];exact⟨h,rfl⟩
def aW(Q:ah):Nat->Int->ByteArray->ByteArray->aG->Prop
 |0,no,lo,hi,g=>∃n,bC (Q no) n/\ay no/\n.leaf=true/\g=([no],n.cells)/\∀c∈n.cells,bW c.key lo hi=true
 |d+1,no,lo,hi,g=>∃(n:Nd) (ps:List aG),bC (Q no) n/\ay no/\n.leaf=false/\ps.length=n.kids.length/\
   (∀(i:Nat) (ct:Int) (p:aG),n.kids[i]? =some ct->ps[i]? =some p->aW Q d ct (b7 n.keys lo i) (bE n.keys hi i) p/\p.2≠[])/\
   g=(no::ps.flatMap Prod.fst,ps.flatMap Prod.snd)
theorem aW.frame{Q Q':ah}:∀{d:Nat} {no:Int} {lo hi:ByteArray} {g:aG},aW Q d no lo hi g->(∀m∈g.1,Q' m=Q m)->aW Q' d no lo hi g:=by
 intro d
 induction d with
 |zero=>
  rintro no lo hi g ⟨n,h1,h2,h3,rfl,h5⟩ he
  exact⟨n,by rw[he no (by simp)];exact h1,h2,h3,rfl,h5⟩
 |succ d ih=>
  rintro no lo hi g ⟨n,ps,h1,h2,h3,h4,h5,rfl⟩ he
  refine⟨n,ps,by rw[he no (by simp)];exact h1,h2,h3,h4,fun i ct p hk hp=> ?_,rfl⟩
  obtain⟨h6,h7⟩:=h5 i ct p hk hp
  exact⟨ih h6 fun m hm=>he m (List.mem_cons_of_mem _ (List.mem_flatMap.2 ⟨p,List.mem_of_getElem? hp,hm⟩)),h7⟩
theorem aW.may{Q:ah}{d:Nat}{no:Int}{lo hi:ByteArray}{g:aG}(h:aW Q d no lo hi g):ay no:=by
 cases d with
 |zero=>obtain⟨n,_,h,_⟩:=h;exact h
 |succ d=>obtain⟨n,ps,_,h,_⟩:=h;exact h
theorem aW.head{Q:ah}{d:Nat}{no:Int}{lo hi:ByteArray}{g:aG}(h:aW Q d no lo hi g):∃l,g.1=no::l:=by
 cases d with
 |zero=>obtain⟨n,_,_,_,rfl,_⟩:=h;exact⟨[],rfl⟩
 |succ d=>obtain⟨n,ps,_,_,_,_,_,rfl⟩:=h;exact⟨_,rfl⟩
theorem aW.through{Q:ah}:∀{d:Nat} {no:Int} {lo hi:ByteArray} {g:aG},aW Q d no lo hi g->∀{f:Nat} {st:aG},d<f->(st.1++g.1).Nodup->(st.1++g.1).length<=32->aZ (aK Q) f no st= .ok (st.1++g.1,st.2++g.2):=by
 intro d
 induction d with
 |zero=>
  rintro no lo hi g ⟨n,h1,h2,h3,rfl,h5⟩ f st hf hn hl
  obtain⟨f,rfl⟩:∃f',f=f'+1:=⟨f-1,by omega⟩
  have mX:¬(32<=st.1.length\/no∈st.1):=by
   rintro(h|h)
   . simp only[List.length_append,List.length_singleton]at hl;omega
   . exact(List.nodup_append.1 hn).2.2 no h no (by simp) rfl
  rw[kG mX (dZ h2 h1),(h1.1.nd.leaf h3).2];rfl
 |succ d ih=>
  rintro no lo hi g ⟨n,ps,h1,h2,h3,h4,h5,rfl⟩ f st hf hn hl
  obtain⟨f,rfl⟩:∃f',f=f'+1:=⟨f-1,by omega⟩
  have mX:¬(32<=st.1.length\/no∈st.1):=by
   rintro(h|h)
   . simp only[List.length_append,List.length_cons]at hl;omega
   . exact(List.nodup_append.1 hn).2.2 no h no (by simp) rfl
  have hc0:n.cells=[]:=((aX h3).1 h1.1.nd.may).1
  rw[kG mX (dZ h2 h1),hc0,List.append_nil]
  have key:∀m,m<=n.kids.length->eM (aK Q) f (n.kids.take m) (st.1++[no],st.2)= .ok (st.1++(no::(ps.take m).flatMap Prod.fst),st.2++(ps.take m).flatMap Prod.snd):=by
   intro m
   induction m with
   |zero=>intro _;rw[List.take_zero,List.take_zero];simp[uM]
   |succ m MO=>
    intro hm
    obtain⟨ct,hk⟩:∃ct,n.kids[m]? =some ct:=⟨_,List.getElem?_eq_getElem (by omega)⟩
    obtain⟨p,hp⟩:∃p,ps[m]? =some p:=⟨_,List.getElem?_eq_getElem (by omega)⟩
    rw[nI hk (MO (by omega))]
    have hsub:ps=ps.take m++p::ps.drop (m+1):=by
     have hlt:m<ps.length:=by omega
     have e:=List.take_append_drop m ps
     rw[List.drop_eq_getElem_cons hlt]at e
     rw[(List.getElem?_eq_some_iff.1 hp).2]at e
     exact e.symm
    have Nu:(st.1++(no::(ps.take m).flatMap Prod.fst)++p.1).Nodup/\(st.1++(no::(ps.take m).flatMap Prod.fst)++p.1).length<=32:=by
     rw[hsub]at hn hl
     simp only[List.flatMap_append,List.flatMap_cons]at hn hl
     have e:st.1++no::((ps.take m).flatMap Prod.fst++(p.1++(ps.drop (m+1)).flatMap Prod.fst))=(st.1++(no::(ps.take m).flatMap Prod.fst)++p.1)++(ps.drop (m+1)).flatMap Prod.fst:=by simp
     rw[e]at hn hl
     exact⟨(List.nodup_append.1 hn).1,by rw[List.length_append]at hl;omega⟩
    rw[ih (h5 m ct p hk hp).1 (f:=f) (by omega) Nu.1 Nu.2]
    rw[List.take_add_one,hp]
    simp
  have:=key n.kids.length (Nat.le_refl _)
  rw[List.take_of_length_le (Nat.le_refl _),<-h4,List.take_of_length_le (Nat.le_refl _)]at this
  exact this
end Go.Pl
end
section
namespace Go.Pl
open Go Go.Sx
theorem aW.check{Q:ah}:∀{d:Nat} {no:Int} {lo hi:ByteArray} {g:aG},aW Q d no lo hi g->∀{f:Nat} {top:Bool},d<f->(top=true\/g.2≠[])->dP (aK Q) f no lo hi top= .ok (d:Int):=by
 intro d
 induction d with
 |zero=>
  rintro no lo hi g ⟨n,h1,h2,h3,rfl,h5⟩ f top hf ht
  obtain⟨f,rfl⟩:∃f',f=f'+1:=⟨f-1,by omega⟩
  exact lP (dZ h2 h1) h3 (ht.imp id fun h=>List.length_pos_iff.2 h) h5
 |succ d ih=>
  rintro no lo hi g ⟨n,ps,h1,h2,h3,h4,h5,rfl⟩ f top hf ht
  obtain⟨f,rfl⟩:∃f',f=f'+1:=⟨f-1,by omega⟩
  rw[dn (dZ h2 h1) h3]
  have nT:=(h1.1.nd.ways h3).1
  have key:∀m,m<=n.kids.length->iX (aK Q) f n lo hi m= .ok (if m=0 then -1 else(d:Int)):=by
   intro m
   induction m with
   |zero=>intro _;rfl
   |succ m MO=>
    intro hm
    obtain⟨ct,hk⟩:∃ct,n.kids[m]? =some ct:=⟨_,List.getElem?_eq_getElem (by omega)⟩
    obtain⟨p,hp⟩:∃p,ps[m]? =some p:=⟨_,List.getElem?_eq_getElem (by omega)⟩
    obtain⟨h6,h7⟩:=h5 m ct p hk hp
    rw[iR (MO (by omega)) hk rfl rfl (ih h6 (by omega) (.inr h7)),if_pos,if_neg (by omega)]
    by_cases h0:m=0
    . rw[if_pos h0];exact .inl (by omega)
    . rw[if_neg h0];exact .inr rfl
  have:=key n.kids.length (Nat.le_refl _)
  rw[if_neg (by omega)]at this
  exact aS this
theorem tY{n:Nd}(hmk:∀k∈n.keys,bP k=true)(nT:n.keys.length+1=n.kids.length){lo hi:ByteArray}{ps:List aG}(h4:ps.length=n.kids.length)
 (h5:∀(i:Nat) (p:aG),ps[i]? =some p->Ordered (b7 n.keys lo i) (bE n.keys hi i) p.2/\p.2≠[]):Ordered lo hi (ps.flatMap Prod.snd)/\ps.flatMap Prod.snd≠[]:=by
 have key:∀m,0<m->m<=ps.length->Ordered lo (bE n.keys hi (m-1)) ((ps.take m).flatMap Prod.snd)/\(ps.take m).flatMap Prod.snd≠[]:=by
  intro m
  induction m with
  |zero=>intro h0;omega
  |succ m MO=>
   intro _ hm
   obtain⟨p,hp⟩:∃p,ps[m]? =some p:=⟨_,List.getElem?_eq_getElem (by omega)⟩
   obtain⟨o2,n2⟩:=h5 m p hp
   rw[Nat.add_sub_cancel,List.take_add_one,hp,Option.toList_some,List.flatMap_append]
   simp only[List.flatMap_cons,List.flatMap_nil,List.append_nil]
   by_cases h0:m=0
   . subst h0
     rw[Ce (by omega)]at o2
     simp only[List.take_zero,List.flatMap_nil,List.nil_append]
     exact⟨o2,n2⟩
   . obtain⟨o1,n1⟩:=MO (by omega) (by omega)
     obtain⟨K,hK⟩:∃K,n.keys[m-1]? =some K:=⟨_,List.getElem?_eq_getElem (by omega)⟩
     rw[wh (by omega) hK]at o2
     rw[oO (by omega) hK]at o1
     exact⟨o1.join (jq (hmk K (List.mem_of_getElem? hK))).2 o2 n1 n2,by simp[n1]⟩
 have:=key ps.length (by omega) (Nat.le_refl _)
 rw[List.take_of_length_le (Nat.le_refl _),sr (by omega)]at this
 exact this
theorem aW.ordered{Q:ah}:∀{d:Nat} {no:Int} {lo hi:ByteArray} {g:aG},aW Q d no lo hi g->Ordered lo hi g.2:=by
 intro d
 induction d with
 |zero=>rintro no lo hi g ⟨n,h1,h2,h3,rfl,h5⟩;exact⟨h1.1.nd.kV,h5⟩
 |succ d ih=>
  rintro no lo hi g ⟨n,ps,h1,h2,h3,h4,h5,rfl⟩
  obtain⟨_,hmk,qX,_,_,_,nT⟩:=(aX h3).1 h1.1.nd.may
  refine(tY hmk nT h4 fun i p hp=> ?_).1
  obtain⟨ct,hk⟩:∃ct,n.kids[i]? =some ct:=⟨_,List.getElem?_eq_getElem (by have:=(List.getElem?_eq_some_iff.1 hp).1;omega)⟩
  obtain⟨h6,h7⟩:=h5 i ct p hk hp
  exact⟨ih h6,h7⟩
theorem eX{l:List ByteArray}(h:rising l){i j:Nat}{a b:ByteArray}(hij:i<j)(hi:l[i]? =some a)(hj:l[j]? =some b):cC a b=true:=by
 obtain⟨h1,rfl⟩:=List.getElem?_eq_some_iff.1 hi
 obtain⟨h2,rfl⟩:=List.getElem?_eq_some_iff.1 hj
 exact List.pairwise_iff_getElem.1 h i j h1 h2 hij
theorem r3{keys:List ByteArray}(hr:rising keys){k lo hi:ByteArray}(h:bW k lo hi=true):bW k (b7 keys lo (bM keys k)) (bE keys hi (bM keys k))=true:=by
 have hs:=kI hr k
 obtain⟨h1,h2⟩:=cJ.1 h
 refine cJ.2 ?_
 unfold bM
 by_cases he:keys[aL keys k]? =some k
 . rw[if_pos he]
   have hlt:=(List.getElem?_eq_some_iff.1 he).1
   refine⟨?_,?_⟩
   . unfold b7
     rw[if_pos (by omega),Nat.add_sub_cancel,List.getD_eq_getElem?_getD,he]
     exact aF k
   . unfold bE
     by_cases hl:aL keys k+1<keys.length
     . rw[if_pos hl]
       obtain⟨b,hb⟩:∃b,keys[aL keys k+1]? =some b:=⟨_,List.getElem?_eq_getElem hl⟩
       rw[List.getD_eq_getElem?_getD,hb]
       exact .inr (eX hr (by omega) he hb)
     . rw[if_neg hl];exact h2
 . rw[if_neg he]
   refine⟨?_,?_⟩
   . unfold b7
     by_cases h0:0<aL keys k
     . rw[if_pos h0]
       obtain⟨b,hb⟩:∃b,keys[aL keys k-1]? =some b:=⟨_,List.getElem?_eq_getElem (by have:=hs.le;omega)⟩
       rw[List.getD_eq_getElem?_getD,hb]
       exact cY (hs.less _ b (by omega) hb)
     . rw[if_neg h0];exact h1
   . unfold bE
     by_cases hl:aL keys k<keys.length
     . rw[if_pos hl]
       obtain⟨b,hb⟩:∃b,keys[aL keys k]? =some b:=⟨_,List.getElem?_eq_getElem hl⟩
       rw[List.getD_eq_getElem?_getD,hb]
       have h3:=hs.rest _ b (Nat.le_refl _) hb
       rcases eO k b with h4|h4|h4
       . exact .inr h4
       . subst h4;exact absurd hb he
       . rw[h3]at h4;cases h4
     . rw[if_neg hl];exact h2
theorem ry{keys:List ByteArray}(hr:rising keys)(h0:∀k∈keys,k≠⟨#[]⟩){k lo hi:ByteArray}{i j:Nat}(hij:i<j)(hj:j<=keys.length)(h1:bW k (b7 keys lo i) (bE keys hi i)=true)(h2:bW k (b7 keys lo j) (bE keys hi j)=true):False:=by
 obtain⟨a,ha⟩:∃a,keys[i]? =some a:=⟨_,List.getElem?_eq_getElem (by omega)⟩
 obtain⟨b,hb⟩:∃b,keys[j-1]? =some b:=⟨_,List.getElem?_eq_getElem (by omega)⟩
 have h3:=(cJ.1 h1).2
 have h4:=(cJ.1 h2).1
 unfold bE at h3
 unfold b7 at h4
 rw[if_pos (by omega),List.getD_eq_getElem?_getD,ha]at h3
 rw[if_pos (by omega),List.getD_eq_getElem?_getD,hb]at h4
 have h3:cC k a=true:=h3.resolve_left (h0 a (List.mem_of_getElem? ha))
 have h4:cC k b=false:=h4
 by_cases e:i=j-1
 . subst e;rw[ha]at hb;injection hb with hb;subst hb;rw[h3]at h4;cases h4
 . rw[bD h3 (eX hr (by omega) ha hb)]at h4;cases h4
def Found(cells:List Cell)(k:ByteArray):Option Cell->Prop
 |some z=>z∈cells/\z.key=k
 |none=>∀c∈cells,c.key≠k
theorem nK{cells:List Cell}(hr:rising (keysOf cells))(k:ByteArray):Found cells k (cellOf cells k):=by
 by_cases he:(keysOf cells)[aL (keysOf cells) k]? =some k
 . obtain⟨z,nS,zu⟩:=ei he
   rw[uL nS zu];exact⟨List.mem_of_getElem? nS,zu⟩
 . rw[jh he]
   intro c hc hk
   obtain⟨j,hj⟩:=List.getElem?_of_mem hc
   have hkj:(keysOf cells)[j]? =some k:=by unfold keysOf;rw[List.getElem?_map,hj,Option.map_some,hk]
   have hs:=kI hr k
   rcases Nat.lt_trichotomy j (aL (keysOf cells) k)with h|h|h
   . have:=hs.less j k h hkj;rw[aF]at this;cases this
   . rw[<-h]at he;exact he hkj
   . obtain⟨b,hb⟩:∃b,(keysOf cells)[aL (keysOf cells) k]? =some b:=⟨_,List.getElem?_eq_getElem (by have:=(List.getElem?_eq_some_iff.1 hkj).1;omega)⟩
     have h1:=hs.rest _ b (Nat.le_refl _) hb
     rw[eX hr h hb hkj]at h1;cases h1
theorem aW.get{Q:ah}{k:ByteArray}:∀{d:Nat} {no:Int} {lo hi:ByteArray} {g:aG},aW Q d no lo hi g->∀{f:Nat},d<f->bW k lo hi=true->∃o,qC (aK Q) k f no= .ok o/\Found g.2 k o:=by
 intro d
 induction d with
 |zero=>
  rintro no lo hi g ⟨n,h1,h2,h3,rfl,h5⟩ f hf hk
  obtain⟨f,rfl⟩:∃f',f=f'+1:=⟨f-1,by omega⟩
  have h0:no≠0:=by unfold ay at h2;omega
  exact⟨_,qc h0 (dZ h2 h1) h3,nK h1.1.nd.kV k⟩
 |succ d ih=>
  rintro no lo hi g ⟨n,ps,h1,h2,h3,h4,h5,rfl⟩ f hf hk
  obtain⟨f,rfl⟩:∃f',f=f'+1:=⟨f-1,by omega⟩
  have h0:no≠0:=by unfold ay at h2;omega
  obtain⟨_,hmk,qX,_,_,_,nT⟩:=(aX h3).1 h1.1.nd.may
  have hne:∀k∈n.keys,k≠⟨#[]⟩:=fun k hk=>(jq (hmk k hk)).2
  have hil:=gu n.keys k
  obtain⟨ct,wV⟩:∃ct,n.kids[bM n.keys k]? =some ct:=⟨_,List.getElem?_eq_getElem (by omega)⟩
  obtain⟨p,hp⟩:∃p,ps[bM n.keys k]? =some p:=⟨_,List.getElem?_eq_getElem (by omega)⟩
  have hin:=r3 qX hk
  obtain⟨o,ho,D_⟩:=ih (h5 _ ct p wV hp).1 (f:=f) (by omega) hin
  refine⟨o,by rw[ym h0 (dZ h2 h1) h3,List.getD_eq_getElem?_getD,wV];exact ho,?_⟩
  cases o with
  |some z=>exact⟨List.mem_flatMap.2 ⟨p,List.mem_of_getElem? hp,D_.1⟩,D_.2⟩
  |none=>
   intro c hc e
   obtain⟨q,hq,wR⟩:=List.mem_flatMap.1 hc
   obtain⟨j,hj⟩:=List.getElem?_of_mem hq
   have hjl:=(List.getElem?_eq_some_iff.1 hj).1
   obtain⟨kj,hkj⟩:∃kj,n.kids[j]? =some kj:=⟨_,List.getElem?_eq_getElem (by omega)⟩
   have hr:=(h5 j kj q hkj hj).1
   by_cases hji:j=bM n.keys k
   . subst hji;rw[hp]at hj;injection hj with hj;subst hj;exact D_ c wR e
   . have hcin:bW c.key (b7 n.keys lo j) (bE n.keys hi j)=true:=hr.ordered.2 c wR
     rw[e]at hcin
     rcases Nat.lt_or_gt_of_ne hji with h|h
     . exact ry qX hne h (by omega) hcin hin
     . exact ry qX hne h (by omega) hin hcin
end Go.Pl
end
section
namespace Go.Pl
open Go Go.Sx
theorem s0{n:Nd}{st:Nat×Nat}{i:Nat}(hi:1<=i)(h:st.1≠0):(uh n st i).1≠0:=by
 unfold uh;split
 . dsimp only;omega
 . exact h
theorem uN{n:Nd}{i:Nat}(h1:1<=i)(h2:i<cD n)(hf:Fits (bu n i).1/\Fits (bu n i).2.1):ew n≠0:=by
 have key:∀m,i<m->(fz n m).1≠0:=by
  intro m
  induction m with
  |zero=>intro h;omega
  |succ m ih=>
   intro h
   rw[eE n (by omega)]
   by_cases e:m=i
   . subst e
     by_cases h0:(fz n m).1=0
     . unfold uh;rw[if_pos ⟨hf.1,hf.2,.inl h0⟩];dsimp only;omega
     . exact s0 h1 h0
   . exact s0 (by omega) (ih (by omega))
 exact key _ h2
theorem Cf{n:Nd}(h:ew n≠0):1<=ew n/\ew n<cD n/\Fits (bu n (ew n)).1/\Fits (bu n (ew n)).2.1:=(mC n (cD n)).resolve_left h
theorem fV{n:Nd}(h:n.leaf=true):(cm n).length=1+(put n.cells.length).length+(n.cells.flatMap ax).length:=by
 unfold cm;rw[if_pos h];simp only[List.length_cons,List.length_append];omega
theorem su{n:Nd}(h:n.leaf=false):(cm n).length=1+(put n.kids.length).length+(n.kids.flatMap put).length+(n.keys.flatMap aI).length:=by
 unfold cm;rw[if_neg (by rw[h];simp)];simp only[List.length_cons,List.length_append];omega
theorem rz{α:Type}{f:α->List UInt8}{b:Nat}:∀{l:List α},(∀x∈l,b<=(f x).length)->b*l.length<=(l.flatMap f).length:=by
 intro l
 induction l with
 |nil=>intro _;simp
 |cons x l ih=>
  intro h
  have h1:=h x (by simp)
  have h2:=ih fun y hy=>h y (by simp[hy])
  simp only[List.flatMap_cons,List.length_append,List.length_cons,Nat.mul_succ];omega
theorem rA{c:Cell}(h:aC c=true):4<=(ax c).length:=by
 have hk:=(ou h).key
 have h1:=eC c.val.kind
 have h2:=eC c.cg
 have h3:c.key≠⟨#[]⟩:=by
  unfold aC at h
  simp only[Bool.and_eq_true]at h
  exact(jq h.1.1.1.1.1).2
 have h4:0<c.key.size:=by
  rcases Nat.eq_zero_or_pos c.key.size with h|h
  . exfalso;apply h3;apply ByteArray.ext;exact Array.eq_empty_of_size_eq_zero h
  . exact h
 have h5:=jg (s:=c.key) (by omega)
 unfold ax bV
 simp only[List.length_append];omega
theorem F_{n:Nd}(hm:dh n)(hl:n.leaf=true)(hb:(n.cells.flatMap ax).length<=321)(hf:¬Fits n):ew n≠0:=by
 obtain⟨qW,hk2,GA,hr⟩:=(cj hl).1 hm
 have hlen:=fV hl
 have l6:256<(cm n).length:=Nat.lt_of_not_le fun h=>hf ⟨hm,h⟩
 have hcb:∀c∈n.cells,(ax c).length<=67:=fun c hc=>gz (GA c hc)
 have hlo:=rz (f:=ax) (b:=4) fun c hc=>rA (GA c hc)
 have hput:(put (n.cells.length:Int)).length<=10:=(Ib (by omega) (by omega)).2
 let P:=fun i=>((n.cells.take i).flatMap ax).length
 have hstep:∀i,P (i+1)<=P i+67:=by
  intro i
  show((n.cells.take (i+1)).flatMap ax).length<=((n.cells.take i).flatMap ax).length+67
  cases h:n.cells[i]?with
  |none=>rw[List.take_of_length_le (by have:=List.getElem?_eq_none_iff.1 h;omega),List.take_of_length_le (List.getElem?_eq_none_iff.1 h)];omega
  |some x=>rw[mq h,List.length_append];have:=hcb x (List.mem_of_getElem? h);omega
 have RL:∀i,P i+((n.cells.drop i).flatMap ax).length=(n.cells.flatMap ax).length:=by
  intro i
  show((n.cells.take i).flatMap ax).length+_=_
  rw[<-List.length_append,<-List.flatMap_append,List.take_append_drop]
 have Te:P 0=0:=by show((n.cells.take 0).flatMap ax).length=0;simp
 have T4:P n.cells.length=(n.cells.flatMap ax).length:=by show((n.cells.take n.cells.length).flatMap ax).length=_;rw[List.take_of_length_le (Nat.le_refl _)]
 have hmono:∀i,n.cells.length<=i->P i=(n.cells.flatMap ax).length:=fun i hi=>by show((n.cells.take i).flatMap ax).length=_;rw[List.take_of_length_le hi]
 obtain⟨i,h1,h2,h3⟩:∃i,1<=i/\P i<=134/\(n.cells.flatMap ax).length-254<=P i:=by
  generalize hs:(n.cells.flatMap ax).length-254=s
  have Wv:s<=67:=by omega
  have key:∀m,s<=P m->∃i,1<=i/\P i<=134/\s<=P i:=by
   intro m
   induction m with
   |zero=>intro h;have:=hstep 0;rw[Nat.zero_add]at this;exact⟨1,Nat.le_refl _,by omega,by omega⟩
   |succ m ih=>
    intro h
    by_cases h4:s<=P m
    . exact ih h4
    . have:=hstep m;exact⟨m+1,by omega,by omega,h⟩
  exact key n.cells.length (by omega)
 have hlt:i<n.cells.length:=by
  refine Nat.lt_of_not_le fun h=> ?_
  have:=hmono i h;omega
 have Qd:=RL i
 have Qd:P i+((n.cells.drop i).flatMap ax).length=(n.cells.flatMap ax).length:=Qd
 have ki:=rz (f:=ax) (b:=4) (l:=n.cells.take i) fun c hc=>rA (GA c (List.mem_of_mem_take hc))
 have XH:=rz (f:=ax) (b:=4) (l:=n.cells.drop i) fun c hc=>rA (GA c (List.mem_of_mem_drop hc))
 have Vh:((n.cells.take i).flatMap ax).length=P i:=rfl
 refine uN (i:=i) h1 (by unfold cD;rw[if_pos hl];exact hlt) ?_
 rw[gF hl]
 refine⟨⟨(cj rfl).2 ⟨rfl,rfl,fun c hc=>GA c (List.mem_of_mem_take hc),?_⟩,?_⟩,⟨(cj rfl).2 ⟨rfl,rfl,fun c hc=>GA c (List.mem_of_mem_drop hc),?_⟩,?_⟩⟩
 . dsimp only;rw[List.map_take];exact hr.sublist (List.take_sublist _ _)
 . rw[fV rfl];dsimp only;rw[dI (by omega) (by rw[Vh]at ki;omega)];omega
 . dsimp only;rw[List.map_drop];exact hr.sublist (List.drop_sublist _ _)
 . rw[fV rfl];dsimp only;rw[dI (by omega) (by omega)];omega
theorem Ga{l:List Int}(h:∀x∈l,2<=x/\x<32):(l.flatMap put).length=l.length:=by
 induction l with
 |nil=>rfl
 |cons x l ih=>
  have h1:=h x (by simp)
  rw[List.flatMap_cons,List.length_append,dI (by omega) (by omega),ih fun y hy=>h y (by simp[hy]),List.length_cons];omega
theorem Dw{l:List ByteArray}(h:∀k∈l,bP k=true):(l.flatMap aI).length<=17*l.length:=
 oH fun k hk=>by have:=(jq (h k hk)).1;rw[jg (by omega)];omega
theorem oP{n:Nd}(hm:dh n)(hl:n.leaf=false)(hk:n.kids.length<=15):Fits n:=by
 obtain⟨h1,h2,h3,h4,h5,h6,h7⟩:=(aX hl).1 hm
 refine⟨hm,?_⟩
 rw[su hl,dI (by omega) (by omega),Ga h4]
 have:=Dw h2
 omega
theorem Gb{n:Nd}(hm:dh n)(hl:n.leaf=false)(hk:n.kids.length<=30)(hf:¬Fits n):ew n≠0/\16<=n.kids.length:=by
 have l6:16<=n.kids.length:=by
  refine Nat.le_of_not_lt fun h=>hf (oP hm hl (by omega))
 obtain⟨h1,h2,h3,h4,h5,h6,h7⟩:=(aX hl).1 hm
 refine⟨uN (i:=n.kids.length/2) (by omega) (by unfold cD;rw[if_neg (by rw[hl];simp)];omega) ?_,l6⟩
 rw[gG hl]
 refine⟨oP ((aX rfl).2 ⟨rfl,fun k hk=>h2 k (List.mem_of_mem_take hk),h3.sublist (List.take_sublist _ _),fun x hx=>h4 x (List.mem_of_mem_take hx),?_,?_,?_⟩) rfl ?_,oP ((aX rfl).2 ⟨rfl,fun k hk=>h2 k (List.mem_of_mem_drop hk),h3.sublist (List.drop_sublist _ _),fun x hx=>h4 x (List.mem_of_mem_drop hx),?_,?_,?_⟩) rfl ?_⟩
 all_goals dsimp only
 all_goals simp only[List.length_take,List.length_drop]
 all_goals omega
theorem o7{l:List ByteArray}(h:rising l):l.Nodup:=h.imp fun h=>vM h
theorem key_inj{cells:List Cell}(h:rising (keysOf cells)){a b:Cell}(ha:a∈cells)(hb:b∈cells)(e:a.key=b.key):a=b:=by
 obtain⟨i,hi⟩:=List.getElem?_of_mem ha
 obtain⟨j,hj⟩:=List.getElem?_of_mem hb
 rcases Nat.lt_trichotomy i j with hij|hij|hij
 . have:=eX h hij (bG hi) (bG hj);rw[e,aF]at this;cases this
 . subst hij;rw[hi]at hj;injection hj
 . have:=eX h hij (bG hj) (bG hi);rw[e,aF]at this;cases this
theorem s3:∀{a b:List Cell},rising (keysOf a)->rising (keysOf b)->(∀c,c∈a↔c∈b)->a=b:=by
 intro a
 induction a with
 |nil=>
  intro b _ _ h
  cases b with
  |nil=>rfl
  |cons y b=>have:=(h y).2 (by simp);cases this
 |cons x a ih=>
  intro b ha hb h
  cases b with
  |nil=>have:=(h x).1 (by simp);cases this
  |cons y b=>
   unfold keysOf at ha hb
   rw[List.map_cons]at ha hb
   obtain⟨Qe,Qc⟩:=List.pairwise_cons.1 ha
   obtain⟨tj,k3⟩:=List.pairwise_cons.1 hb
   have Tf:∀c∈a,cC x.key c.key=true:=fun c hc=>Qe _ (List.mem_map.2 ⟨c,hc,rfl⟩)
   have hby:∀c∈b,cC y.key c.key=true:=fun c hc=>tj _ (List.mem_map.2 ⟨c,hc,rfl⟩)
   have hxy:x=y:=by
    rcases List.mem_cons.1 ((h x).1 (by simp))with e|e
    . exact e
    . rcases List.mem_cons.1 ((h y).2 (by simp))with e2|e2
      . exact e2.symm
      . have h1:=hby x e
        have h2:=Tf y e2
        rw[cY h1]at h2;cases h2
   subst hxy
   congr 1
   refine ih Qc k3 fun c=>⟨fun hc=> ?_,fun hc=> ?_⟩
   . rcases List.mem_cons.1 ((h c).1 (List.mem_cons_of_mem _ hc))with e|e
     . subst e;have:=Tf c hc;rw[aF]at this;cases this
     . exact e
   . rcases List.mem_cons.1 ((h c).2 (List.mem_cons_of_mem _ hc))with e|e
     . subst e;have:=hby c hc;rw[aF]at this;cases this
     . exact e
def jC(x:Cell)(a b:List Cell):Prop:=∀c,c∈b↔c=x\/(c∈a/\c.key≠x.key)
def jr(k:ByteArray)(a b:List Cell):Prop:=∀c,c∈b↔c∈a/\c.key≠k
theorem lG{cells:List Cell}(hr:rising (keysOf cells))(x:Cell):rising (keysOf (b5 cells x))/\jC x cells (b5 cells x):=by
 have hs:=kI hr x.key
 by_cases he:(keysOf cells)[aL (keysOf cells) x.key]? =some x.key
 . rw[ru he]
   obtain⟨z,nS,zu⟩:=ei he
   have hlt:=(List.getElem?_eq_some_iff.1 nS).1
   refine⟨?_,fun c=> ?_⟩
   . have e:keysOf (cells.set (aL (keysOf cells) x.key) x)=keysOf cells:=by
      unfold keysOf at he⊢
      rw[List.map_set]
      refine List.ext_getElem? fun j=> ?_
      by_cases e:aL (cells.map Cell.key) x.key=j
      . subst e;rw[List.getElem?_set_self (List.getElem?_eq_some_iff.1 he).1,he]
      . rw[List.getElem?_set_ne e]
     rw[e];exact hr
   . constructor
     . intro hc
       obtain⟨j,hj⟩:=List.getElem?_of_mem hc
       by_cases e:aL (keysOf cells) x.key=j
       . subst e;rw[List.getElem?_set_self hlt]at hj;injection hj with hj;exact .inl hj.symm
       . rw[List.getElem?_set_ne e]at hj
         refine .inr ⟨List.mem_of_getElem? hj,fun ek=>e ?_⟩
         have h1:=key_inj hr (List.mem_of_getElem? hj) (List.mem_of_getElem? nS) (ek.trans zu.symm)
         subst h1
         rcases Nat.lt_trichotomy j (aL (keysOf cells) x.key)with h|h|h
         . have:=eX hr h (bG hj) (bG nS);rw[aF]at this;cases this
         . exact h.symm
         . have:=eX hr h (bG nS) (bG hj);rw[aF]at this;cases this
     . rintro(rfl|⟨hc,hk⟩)
       . exact List.mem_of_getElem? (List.getElem?_set_self hlt)
       . obtain⟨j,hj⟩:=List.getElem?_of_mem hc
         refine List.mem_of_getElem? (i:=j) ((List.getElem?_set_ne fun e=>hk ?_).trans hj)
         subst e;rw[nS]at hj;injection hj with hj;rw[<-hj];exact zu
 . rw[so he]
   have hlt:=fun(j:Nat) (c:Cell) (h:j<aL (keysOf cells) x.key) (hj:cells[j]? =some c)=>hs.less j c.key h (bG hj)
   have hgt:∀(j:Nat) (c:Cell),aL (keysOf cells) x.key<=j->cells[j]? =some c->cC x.key c.key=true:=by
    intro j c h hj
    have h1:=hs.rest j c.key h (bG hj)
    rcases eO x.key c.key with h2|h2|h2
    . exact h2
    . exfalso
      by_cases e:aL (keysOf cells) x.key=j
      . rw[e]at he;rw[bG hj,h2]at he;exact he rfl
      . obtain⟨b,hb⟩:∃b,(keysOf cells)[aL (keysOf cells) x.key]? =some b:=⟨_,List.getElem?_eq_getElem (by have:=(List.getElem?_eq_some_iff.1 (bG hj)).1;omega)⟩
        have h3:=hs.rest _ b (Nat.le_refl _) hb
        rw[h2,eX hr (by omega) hb (bG hj)]at h3;cases h3
    . rw[h1]at h2;cases h2
   refine⟨?_,fun c=> ?_⟩
   . have e:keysOf (aP cells (aL (keysOf cells) x.key) x)=(keysOf cells).take (aL (keysOf cells) x.key)++x.key::(keysOf cells).drop (aL (keysOf cells) x.key):=by
      unfold keysOf aP;rw[List.map_append,List.map_cons,List.map_take,List.map_drop]
     rw[e]
     refine List.pairwise_append.2 ⟨hr.sublist (List.take_sublist _ _),List.pairwise_cons.2 ⟨fun b hb=> ?_,hr.sublist (List.drop_sublist _ _)⟩,fun a ha b hb=> ?_⟩
     . obtain⟨j,hj⟩:=List.getElem?_of_mem hb
       rw[List.getElem?_drop]at hj
       obtain⟨c,hc,rfl⟩:=ei hj
       exact hgt _ c (by omega) hc
     . obtain⟨i,hi⟩:=List.getElem?_of_mem ha
       have hil:i<aL (keysOf cells) x.key:=by
        have:=(List.getElem?_eq_some_iff.1 hi).1;rw[List.length_take]at this;omega
       rw[List.getElem?_take_of_lt hil]at hi
       obtain⟨c,hc,rfl⟩:=ei hi
       have h1:=hlt i c hil hc
       rcases List.mem_cons.1 hb with rfl|hb
       . exact h1
       . obtain⟨j,hj⟩:=List.getElem?_of_mem hb
         rw[List.getElem?_drop]at hj
         obtain⟨c2,GB,rfl⟩:=ei hj
         exact bD h1 (hgt _ c2 (by omega) GB)
   . unfold aP
     rw[List.mem_append,List.mem_cons]
     have hall:c∈cells↔c∈cells.take (aL (keysOf cells) x.key)\/c∈cells.drop (aL (keysOf cells) x.key):=by
      rw[<-List.mem_append,List.take_append_drop]
     have hne:c∈cells->c.key≠x.key:=by
      intro hc e
      obtain⟨j,hj⟩:=List.getElem?_of_mem hc
      rcases Nat.lt_or_ge j (aL (keysOf cells) x.key)with h|h
      . have:=hlt j c h hj;rw[e,aF]at this;cases this
      . have:=hgt j c h hj;rw[e,aF]at this;cases this
     constructor
     . rintro(h|h|h)
       . exact .inr ⟨hall.2 (.inl h),hne (hall.2 (.inl h))⟩
       . exact .inl h
       . exact .inr ⟨hall.2 (.inr h),hne (hall.2 (.inr h))⟩
     . rintro(h|⟨h,_⟩)
       . exact .inr (.inl h)
       . rcases hall.1 h with h|h
         . exact .inl h
         . exact .inr (.inr h)
end Go.Pl
end
section
namespace Go.Pl
open Go Go.Sx
theorem uO:∀(l:List UInt8) (i:Nat),Op.bytesLess l (l.take i)=false
 |l,0=>by rw[List.take_zero];cases l<;>rfl
 |[],i+1=>rfl
 |a::l,i+1=>by
  have h:¬a<a:=by have:=UInt8.lt_irrefl a;exact this
  rw[List.take_succ_cons]
  unfold Op.bytesLess
  rw[uO l i];simp[h]
theorem o8(b:ByteArray)(i:Nat):(b.extract 0 i).data.toList=b.data.toList.take i:=by
 rw[ByteArray.data_extract];simp
theorem Gc{a b:ByteArray}(h:cC a b=true)(hb:b.size<=16):cC a (iI a b)=true/\cC b (iI a b)=false/\bP (iI a b)=true:=by
 have hex:∃i,i<=b.size/\cC a (b.extract 0 i)=true:=by
  refine⟨b.size,Nat.le_refl _,?_⟩
  have e:b.extract 0 b.size=b:=by
   apply ByteArray.ext
   apply Array.ext'
   rw[o8]
   exact List.take_of_length_le (Nat.le_of_eq Array.length_toList)
  rw[e];exact h
 obtain⟨i,hi,h1,h2⟩:∃i,i<=b.size/\cC a (b.extract 0 i)=true/\∀j,j<i->cC a (b.extract 0 j)=false:=by
  obtain⟨i,hi,h1⟩:=hex
  induction i using Nat.strongRecOn with
  |_ i ih=>
   by_cases hx:∃j,j<i/\cC a (b.extract 0 j)=true
   . obtain⟨j,hj,PF⟩:=hx;exact ih j hj (by omega) PF
   . refine⟨i,hi,h1,fun j hj=> ?_⟩
     cases e:cC a (b.extract 0 j)with
     |false=>rfl
     |true=>exact absurd ⟨j,hj,e⟩ hx
 rw[E_ hi h2 h1]
 refine⟨h1,?_,?_⟩
 . unfold cC;rw[o8];exact uO _ _
 . unfold bP
   rw[Bool.and_eq_true,decide_eq_true_eq,decide_eq_true_eq]
   refine⟨fun e=> ?_,?_⟩
   . rw[e,B5]at h1;cases h1
   . rw[ByteArray.size_extract];omega
structure CF(Q Q':ah)(r:Int)(u:Int->Prop)(k:Nat)(a b:List Int):Prop where
 fst:jG Q' r (fun m=>u m\/m∈b)
 nodup:b.Nodup
 old:∀m∈a,m∈b
 new:∀m∈b,m∈a\/¬u m
 iZ:b.length<=a.length+k
 rest:∀m,m≠1->m∉b->Q' m=Q m
def Grown(Q:ah)(r:Int)(u:Int->Prop)(d:Nat)(no:Int)(lo hi:ByteArray)(g:aG)(x:Cell)(res:TE (Part×ah)):Prop:=
 (∃Q' g',res= .ok (lp,Q')/\aW Q' d no lo hi g'/\jC x g.2 g'.2/\CF Q Q' r u d g.1 g'.1/\(1<d->∀n n',bC (Q no) n->bC (Q' no) n'->n'.kids.length<=n.kids.length\/(n'.kids.length=n.kids.length+1/\2*n.kids.length+15<=g.1.length)))\/
 (∃Q' k to ga gb,res= .ok ((k,to),Q')/\ay to/\aW Q' d no lo k ga/\aW Q' d to k hi gb/\bP k=true/\ga.2≠[]/\gb.2≠[]/\jC x g.2 (ga.2++gb.2)/\CF Q Q' r u (d+1) g.1 (ga.1++gb.1)/\(0<d->16<=g.1.length/\∀n,bC (Q no) n->15<=n.kids.length))\/
 (res= .error 4/\∃l:List Int,l.length<=d/\(∀m,ay m->u m\/m∈l)/\(0<d->d<=l.length->∀n,bC (Q no) n->15<=n.kids.length))
theorem Dx{cells:List Cell}{x:Cell}:((b5 cells x).flatMap ax).length<=(cells.flatMap ax).length+(ax x).length:=by
 have Nv:∀i,(cells.flatMap ax).length=((cells.take i).flatMap ax).length+((cells.drop i).flatMap ax).length:=by
  intro i;rw[<-List.length_append,<-List.flatMap_append,List.take_append_drop]
 by_cases he:(keysOf cells)[aL (keysOf cells) x.key]? =some x.key
 . rw[ru he]
   obtain⟨z,hz,_⟩:=ei he
   obtain⟨hlt,hz⟩:=List.getElem?_eq_some_iff.1 hz
   rw[List.set_eq_take_append_cons_drop,if_pos hlt,Nv (aL (keysOf cells) x.key),List.drop_eq_getElem_cons hlt]
   simp only[List.flatMap_append,List.flatMap_cons,List.length_append];omega
 . rw[so he,Nv (aL (keysOf cells) x.key)]
   unfold aP
   simp only[List.flatMap_append,List.flatMap_cons,List.length_append];omega
theorem AQ{Q:ah}{r:Int}{u:Int->Prop}{no:Int}{lo hi:ByteArray}{n:Nd}{x:Cell}(hF:jG Q r u)(hu:u no)(hp:bC (Q no) n)(hl:n.leaf=true)(hin:∀c∈n.cells,bW c.key lo hi=true)
 (hx:aC x=true)(gA:x.val.f<2^64/\x.new.f<2^64)(mM:bW x.key lo hi=true):Grown Q r u 0 no lo hi ([no],n.cells) x (kU Q no {n with cells:=b5 n.cells x}):=by
 have hno:=hF.may hu
 have l8:no≠1:=by unfold ay at hno;omega
 obtain⟨qW,hk2,GA,hr⟩:=(cj hl).1 hp.1.nd.may
 obtain⟨kg,hput⟩:=lG hr x
 have hmay:∀c∈b5 n.cells x,aC c=true/\(c.val.f<2^64/\c.new.f<2^64)/\bW c.key lo hi=true:=fun c hc=>by
  rcases(hput c).1 hc with rfl|⟨h,_⟩
  . exact⟨hx,gA,mM⟩
  . exact⟨GA c h,hp.1.fl c h,hin c h⟩
 have hmn:dh {n with cells:=b5 n.cells x}:=(cj (n:={n with cells:=b5 n.cells x}) hl).2 ⟨qW,hk2,fun c hc=>(hmay c hc).1,kg⟩
 by_cases hf:Fits {n with cells:=b5 n.cells x}
 . rw[oL hf]
   refine .inl ⟨_,([no],b5 n.cells x),rfl,⟨{n with cells:=b5 n.cells x},eB (n:={n with cells:=b5 n.cells x}) ⟨hf,fun c hc=>(hmay c hc).2.1⟩,hno,hl,rfl,fun c hc=>(hmay c hc).2.2⟩,hput,⟨?_,by simp,fun m hm=>hm,fun m hm=> .inl hm,Nat.le_refl _,fun m h1 h2=>bS fun e=>h2 (by rw[e];simp)⟩,fun h=>absurd h (by omega)⟩
   refine(hF.other (bS (Ne.symm l8))).iff fun m=>⟨.inl,?_⟩
   rintro(h|h)
   . exact h
   . rw[List.mem_singleton]at h;rw[h];exact hu
 . have hold:=fV hl
   have Vi:=hp.1.fits.2
   have XI:=eC (n.cells.length:Int)
   have hib:=Dx (cells:=n.cells) (x:=x)
   have XJ:=gz hx
   have hb:=F_ hmn hl (by dsimp only;omega) hf
   obtain⟨tj,k3,JZ,GS⟩:=Cf hb
   rcases hF.take with⟨to,Q1,ht,hto,mN,GC,Qf⟩|⟨ht,hfull⟩
   . rw[sk hf hb ht]
     generalize ew {n with cells:=b5 n.cells x}=i at*
     have BO:cD {n with cells:=b5 n.cells x}=(b5 n.cells x).length:=by unfold cD;rw[if_pos hl]
     rw[BO]at k3
     rw[gF (n:={n with cells:=b5 n.cells x}) hl]at JZ GS⊢
     dsimp only at JZ GS⊢
     obtain⟨a,ha⟩:∃a,(b5 n.cells x)[i-1]? =some a:=⟨_,List.getElem?_eq_getElem (by omega)⟩
     obtain⟨b,hb⟩:∃b,(b5 n.cells x)[i]? =some b:=⟨_,List.getElem?_eq_getElem k3⟩
     rw[oJ ha,oJ hb]
     have hab:=eX kg (by omega) (bG ha) (bG hb)
     have hma:=hmay a (List.mem_of_getElem? ha)
     have hmb:=hmay b (List.mem_of_getElem? hb)
     obtain⟨pE,hm2,Qg⟩:=Gc hab (ou hmb.1).key
     have Nw:to≠no:=fun e=>mN (by rw[e];exact hu)
     have RM:to≠1:=by unfold ay at hto;omega
     refine .inr (.inl ⟨_,_,to,([no],(b5 n.cells x).take i),([to],(b5 n.cells x).drop i),rfl,hto,⟨⟨true,(b5 n.cells x).take i,[],[]⟩,?_,hno,rfl,rfl,fun c hc=> ?_⟩,⟨⟨true,(b5 n.cells x).drop i,[],[]⟩,eB ⟨GS,fun c hc=>(hmay c (List.mem_of_mem_drop hc)).2.1⟩,hto,rfl,rfl,fun c hc=> ?_⟩,Qg,?_,?_,?_,⟨?_,?_,?_,?_,?_,?_⟩,fun h=>absurd h (Nat.lt_irrefl 0)⟩)
     . rw[bS (Ne.symm Nw)];exact eB ⟨JZ,fun c hc=>(hmay c (List.mem_of_mem_take hc)).2.1⟩
     . have GB:=(hmay c (List.mem_of_mem_take hc)).2.2
       refine cJ.2 ⟨(cJ.1 GB).1,.inr ?_⟩
       obtain⟨j,hj⟩:=List.getElem?_of_mem hc
       have hji:j<i:=by have:=(List.getElem?_eq_some_iff.1 hj).1;rw[List.length_take]at this;omega
       rw[List.getElem?_take_of_lt hji]at hj
       by_cases e:j=i-1
       . subst e;rw[ha]at hj;injection hj with hj;subst hj;exact pE
       . exact bD (eX kg (by omega) (bG hj) (bG ha)) pE
     . have GB:=(hmay c (List.mem_of_mem_drop hc)).2.2
       refine cJ.2 ⟨?_,(cJ.1 GB).2⟩
       obtain⟨j,hj⟩:=List.getElem?_of_mem hc
       rw[List.getElem?_drop]at hj
       by_cases e:j=0
       . subst e;rw[Nat.add_zero,hb]at hj;injection hj with hj;subst hj;exact hm2
       . have h5:=eX kg (show i<i+j by omega) (bG hb) (bG hj)
         cases h6:cC c.key (iI a.key b.key)with
         |false=>rfl
         |true=>have:=bD h5 h6;rw[hm2]at this;cases this
     . intro e;have:=congrArg List.length e;simp only[List.length_take,List.length_nil]at this;omega
     . intro e;have:=congrArg List.length e;simp only[List.length_drop,List.length_nil]at this;omega
     . dsimp only;rw[List.take_append_drop];exact hput
     . refine(GC.other ?_).iff fun m=> ?_
       . rw[bS (Ne.symm RM),bS (Ne.symm l8)]
       . simp only[List.mem_append,List.mem_singleton]
         constructor
         . rintro(h|h)
           . exact .inr (.inr h)
           . exact .inl h
         . rintro(h|h|h)
           . exact .inr h
           . rw[h];exact .inr hu
           . exact .inl h
     . simp only[List.singleton_append];exact List.nodup_cons.2 ⟨by simp[Ne.symm Nw],by simp⟩
     . intro m hm;simp at hm⊢;exact .inl hm
     . intro m hm
       simp only[List.mem_append,List.mem_singleton]at hm
       rcases hm with hm|hm
       . exact .inl (by simp[hm])
       . exact .inr (by rw[hm];exact mN)
     . simp
     . intro m h1 h2
       simp only[List.mem_append,List.mem_singleton,not_or]at h2
       rw[bS h2.2,bS h2.1,Qf m h1 h2.2]
   . rw[qb hf hb ht]
     exact .inr (.inr ⟨rfl,[],Nat.le_refl _,fun m hm=> .inl (hfull m hm),fun h=>absurd h (by omega)⟩)
end Go.Pl
end
section
namespace Go.Pl
open Go Go.Sx
def fC(Q:ah)(d:Nat)(n:Nd)(lo hi:ByteArray)(ps:List aG):Prop:=ps.length=n.kids.length/\
 ∀(i:Nat) (ct:Int) (p:aG),n.kids[i]? =some ct->ps[i]? =some p->aW Q d ct (b7 n.keys lo i) (bE n.keys hi i) p/\p.2≠[]
def wg(no:Int)(ps:List aG):aG:=(no::ps.flatMap Prod.fst,ps.flatMap Prod.snd)
theorem aW.ways{Q:ah}{d:Nat}{no:Int}{n:Nd}{lo hi:ByteArray}{ps:List aG}(hp:bC (Q no) n)(hno:ay no)(hl:n.leaf=false)(h:fC Q d n lo hi ps):aW Q (d+1) no lo hi (wg no ps):=⟨n,ps,hp,hno,hl,h.1,h.2,rfl⟩
theorem fC.frame{Q Q':ah}{d:Nat}{n:Nd}{lo hi:ByteArray}{ps:List aG}(h:fC Q d n lo hi ps)(he:∀p∈ps,∀m∈p.1,Q' m=Q m):fC Q' d n lo hi ps:=
 ⟨h.1,fun i ct p hk hp=>⟨(h.2 i ct p hk hp).1.frame fun m hm=>he p (List.mem_of_getElem? hp) m hm,(h.2 i ct p hk hp).2⟩⟩
theorem fC.ordered{Q:ah}{d:Nat}{n:Nd}{lo hi:ByteArray}{ps:List aG}(h:fC Q d n lo hi ps){i:Nat}{p:aG}(hp:ps[i]? =some p):Ordered (b7 n.keys lo i) (bE n.keys hi i) p.2/\p.2≠[]:=by
 obtain⟨ct,hk⟩:∃ct,n.kids[i]? =some ct:=⟨_,List.getElem?_eq_getElem (by have:=(List.getElem?_eq_some_iff.1 hp).1;have:=h.1;omega)⟩
 obtain⟨h1,h2⟩:=h.2 i ct p hk hp
 exact⟨h1.ordered,h2⟩
theorem fC.LD{Q:ah}{d:Nat}{n:Nd}{lo hi:ByteArray}{ps:List aG}(h:fC Q d n lo hi ps)(nT:n.keys.length+1=n.kids.length){b:Nat}(h1:1<=b)(h2:b<n.kids.length){K:ByteArray}(hK:n.keys[b-1]? =some K):
 fC Q d ⟨false,[],n.keys.take (b-1),n.kids.take b⟩ lo K (ps.take b)/\fC Q d ⟨false,[],n.keys.drop b,n.kids.drop b⟩ K hi (ps.drop b):=by
 refine⟨⟨by simp only[List.length_take];have:=h.1;omega,fun i ct p hk hp=> ?_⟩,⟨by simp only[List.length_drop];have:=h.1;omega,fun i ct p hk hp=> ?_⟩⟩
 . have hib:i<b:=by have:=(List.getElem?_eq_some_iff.1 hp).1;rw[List.length_take]at this;omega
   dsimp only at hk⊢
   rw[List.getElem?_take_of_lt hib]at hk hp
   obtain⟨h3,h4⟩:=h.2 i ct p hk hp
   have e1:b7 (n.keys.take (b-1)) lo i=b7 n.keys lo i:=by
    unfold b7
    by_cases h0:0<i
    . rw[if_pos h0,if_pos h0,List.getD_eq_getElem?_getD,List.getD_eq_getElem?_getD,List.getElem?_take_of_lt (by omega)]
    . rw[if_neg h0,if_neg h0]
   have e2:bE (n.keys.take (b-1)) K i=bE n.keys hi i:=by
    unfold bE
    by_cases h0:i<b-1
    . rw[if_pos (by rw[List.length_take];omega),if_pos (by omega),List.getD_eq_getElem?_getD,List.getD_eq_getElem?_getD,List.getElem?_take_of_lt h0]
    . obtain rfl:i=b-1:=by omega
      rw[if_neg (by rw[List.length_take];omega),if_pos (by omega),List.getD_eq_getElem?_getD,hK];rfl
   rw[e1,e2];exact⟨h3,h4⟩
 . dsimp only at hk⊢
   rw[List.getElem?_drop]at hk hp
   obtain⟨h3,h4⟩:=h.2 _ ct p hk hp
   have hil:=(List.getElem?_eq_some_iff.1 hk).1
   have e1:b7 (n.keys.drop b) K i=b7 n.keys lo (b+i):=by
    unfold b7
    by_cases h0:0<i
    . rw[if_pos h0,if_pos (by omega),List.getD_eq_getElem?_getD,List.getD_eq_getElem?_getD,List.getElem?_drop,show b+(i-1)=b+i-1 by omega]
    . obtain rfl:i=0:=by omega
      rw[if_neg h0,if_pos (by omega),Nat.add_zero,List.getD_eq_getElem?_getD,hK];rfl
   have e2:bE (n.keys.drop b) hi i=bE n.keys hi (b+i):=by
    unfold bE
    by_cases h0:b+i<n.keys.length
    . rw[if_pos (by rw[List.length_drop];omega),if_pos h0,List.getD_eq_getElem?_getD,List.getD_eq_getElem?_getD,List.getElem?_drop]
    . rw[if_neg (by rw[List.length_drop];omega),if_neg h0]
   rw[e1,e2];exact⟨h3,h4⟩
def fo(Q:ah)(d:Nat)(n:Nd)(lo hi:ByteArray)(ps:List aG)(i:Nat):Prop:=ps.length=n.kids.length/\
 ∀(j:Nat) (ct:Int) (p:aG),j≠i->n.kids[j]? =some ct->ps[j]? =some p->aW Q d ct (b7 n.keys lo j) (bE n.keys hi j) p/\p.2≠[]
theorem fC.but{Q Q':ah}{d:Nat}{n:Nd}{lo hi:ByteArray}{ps:List aG}(h:fC Q d n lo hi ps){i:Nat}(he:∀(j:Nat) (q:aG),j≠i->ps[j]? =some q->∀m∈q.1,Q' m=Q m):fo Q' d n lo hi ps i:=
 ⟨h.1,fun j ct p hj hk hp=>⟨(h.2 j ct p hk hp).1.frame (he j p hj hp),(h.2 j ct p hk hp).2⟩⟩
theorem fo.set{Q:ah}{d:Nat}{n:Nd}{lo hi:ByteArray}{ps:List aG}{i:Nat}(h:fo Q d n lo hi ps i){ct:Int}{q:aG}(hk:n.kids[i]? =some ct)(hq:aW Q d ct (b7 n.keys lo i) (bE n.keys hi i) q)(GD:q.2≠[]):fC Q d n lo hi (ps.set i q):=by
 refine⟨by rw[List.length_set];exact h.1,fun j kj p hkj hp=> ?_⟩
 by_cases e:i=j
 . subst e
   have hil:i<ps.length:=by have:=(List.getElem?_eq_some_iff.1 hk).1;have:=h.1;omega
   rw[List.getElem?_set_self hil]at hp
   injection hp with hp;subst hp
   rw[hk]at hkj;injection hkj with hkj;subst hkj
   exact⟨hq,GD⟩
 . rw[List.getElem?_set_ne e]at hp
   exact h.2 j kj p (Ne.symm e) hkj hp
theorem mJ{α:Type}{l:List α}{i:Nat}{y:α}(hi:i<=l.length)(j:Nat):(aP l i y)[j]? =if j<i then l[j]?else if j=i then some y else l[j-1]? :=by
 unfold aP
 by_cases h1:j<i
 . rw[if_pos h1,List.getElem?_append_left (by rw[List.length_take];omega),List.getElem?_take_of_lt h1]
 . rw[if_neg h1,List.getElem?_append_right (by rw[List.length_take];omega),List.length_take,Nat.min_eq_left hi]
   by_cases h2:j=i
   . subst h2;rw[if_pos rfl,Nat.sub_self];rfl
   . rw[if_neg h2]
     obtain⟨k,hk⟩:∃k,j-i=k+1:=⟨j-i-1,by omega⟩
     rw[hk,List.getElem?_cons_succ,List.getElem?_drop,show i+k=j-1 by omega]
theorem fo.two{Q:ah}{d:Nat}{n:Nd}{lo hi:ByteArray}{ps:List aG}{i:Nat}(h:fo Q d n lo hi ps i)(nT:n.keys.length+1=n.kids.length){ct to:Int}{k:ByteArray}{ga gb:aG}(hk:n.kids[i]? =some ct)
 (ha:aW Q d ct (b7 n.keys lo i) k ga)(hb:aW Q d to k (bE n.keys hi i) gb)(ha0:ga.2≠[])(hb0:gb.2≠[]):
 fC Q d {n with keys:=aP n.keys i k,kids:=aP n.kids (i+1) to} lo hi (aP (ps.set i ga) (i+1) gb):=by
 have hil:=(List.getElem?_eq_some_iff.1 hk).1
 have hps:=h.1
 refine⟨by rw[cG,List.length_set];dsimp only;rw[cG,hps],fun j kj p hkj hp=> ?_⟩
 dsimp only at hkj⊢
 rw[mJ (by omega)]at hkj
 rw[mJ (by rw[List.length_set];omega)]at hp
 have RN:b7 (aP n.keys i k) lo j=if j<=i then b7 n.keys lo j else if j=i+1 then k else b7 n.keys lo (j-1):=by
  unfold b7
  rw[List.getD_eq_getElem?_getD,mJ (by omega)]
  by_cases h1:j<=i
  . rw[if_pos h1]
    by_cases h0:0<j
    . rw[if_pos h0,if_pos h0,if_pos (by omega),List.getD_eq_getElem?_getD]
    . rw[if_neg h0,if_neg h0]
  . rw[if_neg h1,if_pos (by omega),if_neg (by omega)]
    by_cases h2:j=i+1
    . rw[if_pos h2,if_pos (by omega)];rfl
    . rw[if_neg h2,if_neg (by omega),if_pos (by omega),List.getD_eq_getElem?_getD]
 have Oh:bE (aP n.keys i k) hi j=if j<i then bE n.keys hi j else if j=i then k else bE n.keys hi (j-1):=by
  unfold bE
  rw[List.getD_eq_getElem?_getD,mJ (by omega),cG]
  by_cases h1:j<i
  . rw[if_pos h1,if_pos (by omega),if_pos h1,if_pos (by omega),List.getD_eq_getElem?_getD]
  . rw[if_neg h1,if_neg h1]
    by_cases h2:j=i
    . rw[if_pos h2,if_pos h2,if_pos (by omega)];rfl
    . rw[if_neg h2,if_neg h2]
      by_cases h3:j-1<n.keys.length
      . rw[if_pos (by omega),if_pos h3,List.getD_eq_getElem?_getD]
      . rw[if_neg (by omega),if_neg h3]
 rw[RN,Oh]
 rcases Nat.lt_trichotomy j i with h1|h1|h1
 . rw[if_pos (show j<i+1 by omega)]at hkj hp
   rw[List.getElem?_set_ne (by omega)]at hp
   rw[if_pos (show j<=i by omega),if_pos h1]
   exact h.2 j kj p (by omega) hkj hp
 . subst h1
   rw[if_pos (show j<j+1 by omega)]at hkj hp
   rw[List.getElem?_set_self (by omega)]at hp
   rw[hk]at hkj;injection hkj with hkj;subst hkj
   injection hp with hp;subst hp
   rw[if_pos (Nat.le_refl _),if_neg (Nat.lt_irrefl _),if_pos rfl]
   exact⟨ha,ha0⟩
 . rw[if_neg (show¬j<=i by omega),if_neg (show¬j<i by omega),if_neg (show¬j=i by omega)]
   by_cases h2:j=i+1
   . rw[if_neg (show¬j<i+1 by omega),if_pos h2]at hkj hp
     injection hkj with hkj;subst hkj
     injection hp with hp;subst hp
     rw[if_pos h2,show j-1=i by omega]
     exact⟨hb,hb0⟩
   . rw[if_neg (show¬j<i+1 by omega),if_neg h2]at hkj hp
     rw[List.getElem?_set_ne (by omega)]at hp
     rw[if_neg h2]
     exact h.2 (j-1) kj p (by omega) hkj hp
end Go.Pl
end
section
namespace Go.Pl
open Go Go.Sx
section
variable{α β:Type}
theorem fR{ps:List α}{f:α->List β}{i:Nat}{p:α}(hp:ps[i]? =some p):ps.flatMap f=(ps.take i).flatMap f++(f p++(ps.drop (i+1)).flatMap f):=by
 obtain⟨hlt,rfl⟩:=List.getElem?_eq_some_iff.1 hp
 conv=>lhs;rw[<-List.take_append_drop i ps,List.drop_eq_getElem_cons hlt]
 rw[List.flatMap_append,List.flatMap_cons]
theorem iN{ps:List α}{f:α->List β}{i:Nat}{q:α}(hi:i<ps.length):(ps.set i q).flatMap f=(ps.take i).flatMap f++(f q++(ps.drop (i+1)).flatMap f):=by
 rw[List.set_eq_take_append_cons_drop,if_pos hi,List.flatMap_append,List.flatMap_cons]
theorem yp{ps:List α}{f:α->List β}{i:Nat}{a b:α}(hi:i<ps.length):(aP (ps.set i a) (i+1) b).flatMap f=(ps.take i).flatMap f++((f a++f b)++(ps.drop (i+1)).flatMap f):=by
 have h1:(ps.set i a).take (i+1)=ps.take i++[a]:=by
  rw[List.set_eq_take_append_cons_drop,if_pos hi,List.take_append,List.length_take,Nat.min_eq_left (by omega),List.take_of_length_le (by rw[List.length_take];omega),show i+1-i=1 by omega];rfl
 have h2:(ps.set i a).drop (i+1)=ps.drop (i+1):=by rw[List.drop_set_of_lt (by omega)]
 unfold aP
 rw[h1,h2,List.flatMap_append,List.flatMap_append,List.flatMap_cons]
 simp
theorem uP{a p q b:List α}(h:(a++(p++b)).Nodup)(hq:q.Nodup)(hn:∀m∈q,m∈p\/m∉a++(p++b)):(a++(q++b)).Nodup:=by
 obtain⟨h1,h2,h3⟩:=List.nodup_append.1 h
 obtain⟨h4,h5,h6⟩:=List.nodup_append.1 h2
 refine List.nodup_append.2 ⟨h1,List.nodup_append.2 ⟨hq,h5,fun x hx y hy e=> ?_⟩,fun x hx y hy e=> ?_⟩
 . subst e
   rcases hn x hx with h|h
   . exact h6 x h x hy rfl
   . exact h (by simp[hy])
 . subst e
   rcases List.mem_append.1 hy with hy|hy
   . rcases hn x hy with h|h
     . exact h3 x hx x (by simp[h]) rfl
     . exact h (by simp[hx])
   . exact h3 x hx x (by simp[hy]) rfl
end
theorem jC.mid{x:Cell}{a p q b:List Cell}(h:jC x p q)(ha:∀c∈a,c.key≠x.key)(hb:∀c∈b,c.key≠x.key):jC x (a++(p++b)) (a++(q++b)):=by
 intro c
 have:=h c
 simp only[List.mem_append]
 constructor
 . rintro(h1|h1|h1)
   . exact .inr ⟨.inl h1,ha c h1⟩
   . rcases this.1 h1 with h2|⟨h2,h3⟩
     . exact .inl h2
     . exact .inr ⟨.inr (.inl h2),h3⟩
   . exact .inr ⟨.inr (.inr h1),hb c h1⟩
 . rintro(h1|⟨h1|h1|h1,h2⟩)
   . exact .inr (.inl (this.2 (.inl h1)))
   . exact .inl h1
   . exact .inr (.inl (this.2 (.inr ⟨h1,h2⟩)))
   . exact .inr (.inr h1)
theorem CF.mid{Q Q1:ah}{r:Int}{u:Int->Prop}{k:Nat}{p q a b:List Int}(h:CF Q Q1 r u k p q)(hu:∀m∈a++(p++b),u m)(hn:(a++(p++b)).Nodup):
 CF Q Q1 r u k (a++(p++b)) (a++(q++b))/\(∀m,(m∈a\/m∈b)->ay m->Q1 m=Q m):=by
 have hnew:∀m∈q,m∈p\/m∉a++(p++b):=fun m hm=>(h.new m hm).imp id fun h2 h3=>h2 (hu m h3)
 refine⟨⟨h.fst.iff fun m=> ?_,uP hn h.nodup hnew,fun m hm=> ?_,fun m hm=> ?_,?_,fun m h1 h2=>h.rest m h1 fun h3=>h2 (by simp[h3])⟩,fun m hm Vj=> ?_⟩
 . simp only[List.mem_append]
   constructor
   . rintro(h1|h1)
     . exact .inl h1
     . exact .inr (.inr (.inl h1))
   . rintro(h1|h1|h1|h1)
     . exact .inl h1
     . exact .inl (hu m (by simp[h1]))
     . exact .inr h1
     . exact .inl (hu m (by simp[h1]))
 . simp only[List.mem_append]at hm⊢
   rcases hm with h1|h1|h1
   . exact .inl h1
   . exact .inr (.inl (h.old m h1))
   . exact .inr (.inr h1)
 . simp only[List.mem_append]at hm⊢
   rcases hm with h1|h1|h1
   . exact .inl (.inl h1)
   . rcases h.new m h1 with h2|h2
     . exact .inl (.inr (.inl h2))
     . exact .inr h2
   . exact .inl (.inr (.inr h1))
 . have:=h.iZ;simp only[List.length_append];omega
 . have h1:m≠1:=by unfold ay at Vj;omega
   refine h.rest m h1 fun h3=> ?_
   obtain⟨n1,n2,n3⟩:=List.nodup_append.1 hn
   obtain⟨n4,n5,n6⟩:=List.nodup_append.1 n2
   rcases hnew m h3 with h4|h4
   . rcases hm with h5|h5
     . exact n3 m h5 m (by simp[h4]) rfl
     . exact n6 m h4 m h5 rfl
   . exact h4 (by rcases hm with h5|h5<;>simp[h5])
end Go.Pl
end
section
namespace Go.Pl
open Go Go.Sx
theorem fC.other{Q:ah}{d:Nat}{n:Nd}{lo hi:ByteArray}{ps:List aG}(h:fC Q d n lo hi ps)(hm:dh n)(hl:n.leaf=false){k:ByteArray}(hk:bW k lo hi=true){j:Nat}{q:aG}(hj:j≠bM n.keys k)(hq:ps[j]? =some q):∀c∈q.2,c.key≠k:=by
 obtain⟨_,hmk,qX,_,_,_,nT⟩:=(aX hl).1 hm
 have hne:∀k∈n.keys,k≠⟨#[]⟩:=fun k hk=>(jq (hmk k hk)).2
 intro c hc e
 have hin:=r3 qX hk
 have hil:=gu n.keys k
 have hjl:=(List.getElem?_eq_some_iff.1 hq).1
 have hcin:=(h.ordered hq).1.2 c hc
 rw[e]at hcin
 have tn:=h.1
 rcases Nat.lt_or_gt_of_ne hj with h|h
 . exact ry qX hne h (by omega) hcin hin
 . exact ry qX hne h (by omega) hin hcin
theorem fM{α:Type}{ps:List α}{i:Nat}{q:α}(h:q∈ps.take i):∃j,j<i/\ps[j]? =some q:=by
 obtain⟨j,hj⟩:=List.getElem?_of_mem h
 have hji:j<i:=by have:=(List.getElem?_eq_some_iff.1 hj).1;rw[List.length_take]at this;omega
 exact⟨j,hji,by rw[List.getElem?_take_of_lt hji]at hj;exact hj⟩
theorem fN{α:Type}{ps:List α}{i:Nat}{q:α}(h:q∈ps.drop i):∃j,i<=j/\ps[j]? =some q:=by
 obtain⟨j,hj⟩:=List.getElem?_of_mem h
 rw[List.getElem?_drop]at hj
 exact⟨i+j,by omega,hj⟩
theorem me{α:Type}[DecidableEq α]:∀{a b:List α},a.Nodup->(∀x∈a,x∈b)->a.length<=b.length:=by
 intro a
 induction a with
 |nil=>intro b _ _;simp
 |cons x a ih=>
  intro b hn hs
  obtain⟨h1,h2⟩:=List.nodup_cons.1 hn
  have hx:=hs x (by simp)
  have:=ih (b:=b.erase x) h2 fun y hy=>by
   have P_:y≠x:=fun e=>h1 (e▸hy)
   exact(List.mem_erase_of_ne P_).2 (hs y (by simp[hy]))
  rw[List.length_erase_of_mem hx]at this
  have hpos:0<b.length:=List.length_pos_of_mem hx
  simp only[List.length_cons];omega
def uses:List Int:=(List.range 30).map fun i=>((i+2:Nat):Int)
theorem yq:uses.length=30:=by unfold uses;simp
theorem Gd{m:Int}(h:ay m):m∈uses:=by
 obtain⟨n,rfl,h1,h2⟩:=j9 h
 exact List.mem_map.2 ⟨n-2,List.mem_range.2 (by omega),by omega⟩
theorem rB{l:List Int}(hn:l.Nodup)(h:∀m∈l,ay m):l.length<=30:=by
 have:=me hn fun m hm=>Gd (h m hm)
 rw[yq]at this;exact this
theorem AR{l:List ByteArray}(hr:rising l){i:Nat}{k:ByteArray}(hi:i<=l.length)(h1:∀a,0<i->l[i-1]? =some a->cC a k=true)(h2:∀b,l[i]? =some b->cC k b=true):rising (aP l i k):=by
 have hlo:∀a∈l.take i,cC a k=true:=fun a ha=>by
  obtain⟨j,hj,Mp⟩:=fM ha
  obtain⟨b,hb⟩:∃b,l[i-1]? =some b:=⟨_,List.getElem?_eq_getElem (by omega)⟩
  by_cases e:j=i-1
  . subst e;exact h1 a (by omega) Mp
  . exact bD (eX hr (by omega) Mp hb) (h1 b (by omega) hb)
 have hhi:∀a∈l.drop i,cC k a=true:=fun a ha=>by
  obtain⟨j,hj,Mp⟩:=fN ha
  by_cases e:j=i
  . subst e;exact h2 a Mp
  . obtain⟨b,hb⟩:∃b,l[i]? =some b:=⟨_,List.getElem?_eq_getElem (by have:=(List.getElem?_eq_some_iff.1 Mp).1;omega)⟩
    exact bD (h2 b hb) (eX hr (by omega) hb Mp)
 unfold aP
 refine List.pairwise_append.2 ⟨hr.sublist (List.take_sublist _ _),List.pairwise_cons.2 ⟨hhi,hr.sublist (List.drop_sublist _ _)⟩,fun a ha b hb=> ?_⟩
 rcases List.mem_cons.1 hb with rfl|hb
 . exact hlo a ha
 . exact bD (hlo a ha) (hhi b hb)
theorem AS{ps:List aG}(h:∀p∈ps,p.1≠[]):ps.length<=(ps.flatMap Prod.fst).length:=by
 induction ps with
 |nil=>simp
 |cons p ps ih=>
  have h1:=List.length_pos_iff.2 (h p (by simp))
  have h2:=ih fun q hq=>h q (by simp[hq])
  simp only[List.flatMap_cons,List.length_append,List.length_cons];omega
theorem fC.Jq{Q:ah}{d:Nat}{n:Nd}{lo hi:ByteArray}{ps:List aG}(h:fC Q d n lo hi ps):n.kids.length<=(ps.flatMap Prod.fst).length:=by
 rw[<-h.1]
 refine AS fun p hp=> ?_
 obtain⟨i,hi⟩:=List.getElem?_of_mem hp
 obtain⟨ct,hk⟩:∃ct,n.kids[i]? =some ct:=⟨_,List.getElem?_eq_getElem (by have:=(List.getElem?_eq_some_iff.1 hi).1;have:=h.1;omega)⟩
 obtain⟨l,hl⟩:=(h.2 i ct p hk hi).1.head
 rw[hl];simp
theorem qf{b:Nat}:∀{ps:List aG},(∀p∈ps,b<=p.1.length)->b*ps.length<=(ps.flatMap Prod.fst).length:=by
 intro ps
 induction ps with
 |nil=>intro _;simp
 |cons p ps ih=>
  intro h
  have h1:=h p (by simp)
  have h2:=ih fun q hq=>h q (by simp[hq])
  simp only[List.flatMap_cons,List.length_append,List.length_cons,Nat.mul_succ];omega
theorem aW.pages{Q:ah}:∀{d:Nat} {no:Int} {lo hi:ByteArray} {g:aG},aW Q d no lo hi g->d+1<=g.1.length:=by
 intro d
 induction d with
 |zero=>rintro no lo hi g ⟨n,_,_,_,rfl,_⟩;exact Nat.le_refl _
 |succ d ih=>
  rintro no lo hi g ⟨n,ps,h1,h2,h3,h4,h5,rfl⟩
  obtain⟨_,_,_,_,qW,_,_⟩:=(aX h3).1 h1.1.nd.may
  obtain⟨ct,hk⟩:∃ct,n.kids[0]? =some ct:=⟨_,List.getElem?_eq_getElem (by omega)⟩
  obtain⟨p,hp⟩:∃p,ps[0]? =some p:=⟨_,List.getElem?_eq_getElem (by omega)⟩
  have:=ih (h5 0 ct p hk hp).1
  have e:=fR (f:=Prod.fst) hp
  have:=congrArg List.length e
  simp only[List.length_append,List.length_cons]at this⊢
  omega
theorem fC.pages{Q:ah}{d:Nat}{n:Nd}{lo hi:ByteArray}{ps:List aG}(h:fC Q d n lo hi ps):(d+1)*n.kids.length<=(ps.flatMap Prod.fst).length:=by
 rw[<-h.1]
 refine qf fun p hp=> ?_
 obtain⟨i,hi⟩:=List.getElem?_of_mem hp
 obtain⟨ct,hk⟩:∃ct,n.kids[i]? =some ct:=⟨_,List.getElem?_eq_getElem (by have:=(List.getElem?_eq_some_iff.1 hi).1;have:=h.1;omega)⟩
 exact(h.2 i ct p hk hi).1.pages
theorem fC.full{Q:ah}{d:Nat}{n:Nd}{lo hi:ByteArray}{ps:List aG}(h:fC Q d n lo hi ps)(h0:0<n.kids.length):ps.flatMap Prod.snd≠[]:=by
 obtain⟨p,hp⟩:∃p,ps[0]? =some p:=⟨_,List.getElem?_eq_getElem (by have:=h.1;omega)⟩
 obtain⟨c,hc⟩:=List.exists_mem_of_ne_nil _ (h.ordered hp).2
 exact List.ne_nil_of_mem (List.mem_flatMap.2 ⟨p,List.mem_of_getElem? hp,hc⟩)
theorem Io{Q:ah}{r:Int}{u:Int->Prop}{d f:Nat}{no:Int}{lo hi:ByteArray}{n:Nd}{ps:List aG}{x:Cell}{i:Nat}{ct:Int}{p:aG}(hF:jG Q r u)(hu:∀m∈(wg no ps).1,u m)(hn:(wg no ps).1.Nodup)
 (hp:bC (Q no) n)(hl:n.leaf=false)(hw:fC Q d n lo hi ps)(mM:bW x.key lo hi=true)(J0:i=bM n.keys x.key)(hk:n.kids[i]? =some ct)(CT:ps[i]? =some p)
 (hg:Grown Q r u d ct (b7 n.keys lo i) (bE n.keys hi i) p x (bF x f Q ct)):Grown Q r u (d+1) no lo hi (wg no ps) x (bF x (f+1) Q no):=by
 have hno:=hF.may (hu no (by simp[wg]))
 have l8:no≠1:=by unfold ay at hno;omega
 have hrd:=dZ hno hp
 have hmn:=hp.1.nd.may
 obtain⟨hc0,hmk,qX,xD,qW,RO,nT⟩:=(aX hl).1 hmn
 have hgd:n.kids.getD (bM n.keys x.key) 0=ct:=by rw[<-J0,List.getD_eq_getElem?_getD,hk];rfl
 have hil:i<ps.length:=(List.getElem?_eq_some_iff.1 CT).1
 have e1:(wg no ps).1=(no::(ps.take i).flatMap Prod.fst)++(p.1++(ps.drop (i+1)).flatMap Prod.fst):=by show no::ps.flatMap Prod.fst=_;rw[fR CT];rfl
 have e2:(wg no ps).2=(ps.take i).flatMap Prod.snd++(p.2++(ps.drop (i+1)).flatMap Prod.snd):=fR CT
 have Tg:∀m∈(no::(ps.take i).flatMap Prod.fst)++(p.1++(ps.drop (i+1)).flatMap Prod.fst),u m:=by rw[<-e1];exact hu
 have hna:((no::(ps.take i).flatMap Prod.fst)++(p.1++(ps.drop (i+1)).flatMap Prod.fst)).Nodup:=by rw[<-e1];exact hn
 have hka:∀c∈(ps.take i).flatMap Prod.snd,c.key≠x.key:=fun c hc=>by
  obtain⟨q,hq,wR⟩:=List.mem_flatMap.1 hc
  obtain⟨j,hj,xq⟩:=fM hq
  exact hw.other hmn hl mM (by omega) xq c wR
 have Ea:∀c∈(ps.drop (i+1)).flatMap Prod.snd,c.key≠x.key:=fun c hc=>by
  obtain⟨q,hq,wR⟩:=List.mem_flatMap.1 hc
  obtain⟨j,hj,xq⟩:=fN hq
  exact hw.other hmn hl mM (by omega) xq c wR
 have gS:∀(j:Nat) (q:aG),j≠i->ps[j]? =some q->∀m∈q.1,(m∈no::(ps.take i).flatMap Prod.fst\/m∈(ps.drop (i+1)).flatMap Prod.fst)/\ay m:=fun j q hj hq m hm=>by
  refine⟨?_,hF.may (hu m (List.mem_cons_of_mem _ (List.mem_flatMap.2 ⟨q,List.mem_of_getElem? hq,hm⟩)))⟩
  rcases Nat.lt_or_gt_of_ne hj with h|h
  . exact .inl (List.mem_cons_of_mem _ (List.mem_flatMap.2 ⟨q,List.mem_of_getElem? (i:=j) (by rw[List.getElem?_take_of_lt h];exact hq),hm⟩))
  . exact .inr (List.mem_flatMap.2 ⟨q,List.mem_of_getElem? (i:=j-(i+1)) (by rw[List.getElem?_drop,show i+1+(j-(i+1))=j by omega];exact hq),hm⟩)
 rcases hg with⟨Q1,q,hres,hT,hP,hS,_⟩|⟨Q1,k,to,ga,gb,hres,hto,PK,PL,Ky,ha0,hb0,hP,hS,l6⟩|⟨hres,l,Vk,hfull,_⟩
 .
  rw[gq hrd hl (by rw[hgd];exact hres) rfl]
  obtain⟨jb,hfr⟩:=hS.mid Tg hna
  have vt:Q1 no=Q no:=hfr no (.inl (by simp)) hno
  have GD:q.2≠[]:=by
   intro e
   have:=(hP x).2 (.inl rfl);rw[e]at this;cases this
  have hW:=fo.set (hw.but fun j q hj hq m hm=>hfr m (gS j q hj hq m hm).1 (gS j q hj hq m hm).2) hk hT GD
  refine .inl ⟨Q1,wg no (ps.set i q),rfl,aW.ways (by rw[vt];exact hp) hno hl hW,?_,?_⟩
  . rw[e2];show jC x _ ((ps.set i q).flatMap Prod.snd);rw[iN hil];exact hP.mid hka Ea
  . refine⟨?_,fun _ n1 n2 h1 h2=> .inl (by rw[vt]at h2;rw[c_ h1 h2];exact Nat.le_refl _)⟩
    rw[e1];show CF Q Q1 r u (d+1) _ (no::(ps.set i q).flatMap Prod.fst);rw[iN hil]
    exact⟨jb.fst,jb.nodup,jb.old,jb.new,by have:=jb.iZ;simp only[List.cons_append]at this⊢;omega,jb.rest⟩
 .
  have Kz:to≠0:=by unfold ay at hto;omega
  rw[lN hrd hl (by rw[hgd];exact hres) Kz]
  obtain⟨jb,hfr⟩:=hS.mid Tg hna
  rw[<-J0]
  have hW:=fo.two (hw.but fun j q hj hq m hm=>hfr m (gS j q hj hq m hm).1 (gS j q hj hq m hm).2) nT hk PK PL ha0 hb0
  have f1:(aP (ps.set i ga) (i+1) gb).flatMap Prod.fst=(ps.take i).flatMap Prod.fst++((ga.1++gb.1)++(ps.drop (i+1)).flatMap Prod.fst):=yp hil
  have f2:(aP (ps.set i ga) (i+1) gb).flatMap Prod.snd=(ps.take i).flatMap Prod.snd++((ga.2++gb.2)++(ps.drop (i+1)).flatMap Prod.snd):=yp hil
  have GF:=hP.mid hka Ea
  rw[<-f2]at GF
  rw[<-e2]at GF
  have f3:(no::(ps.take i).flatMap Prod.fst)++((ga.1++gb.1)++(ps.drop (i+1)).flatMap Prod.fst)=no::(aP (ps.set i ga) (i+1) gb).flatMap Prod.fst:=by rw[f1];rfl
  rw[f3,<-e1]at jb
  generalize aP (ps.set i ga) (i+1) gb=ps2 at*
  have Jr:∀m∈no::ps2.flatMap Prod.fst,ay m:=fun m hm=>jb.fst.may (.inr hm)
  have Th:=rB jb.nodup Jr
  have Vm:=hW.Jq
  have Ww:(aP n.kids (i+1) to).length<=29:=by
   have:(aP n.kids (i+1) to).length<=(ps2.flatMap Prod.fst).length:=Vm
   simp only[List.length_cons]at Th;omega
  have Wx:=(List.getElem?_eq_some_iff.1 hk).1
  have RP:dh {n with keys:=aP n.keys i k,kids:=aP n.kids (i+1) to}:=by
   refine(aX (n:={n with keys:=aP n.keys i k,kids:=aP n.kids (i+1) to}) hl).2 ⟨hc0,fun y hy=> ?_,?_,fun y hy=> ?_,?_,(show(aP n.kids (i+1) to).length<=32 by omega),?_⟩
   . rcases mD hy with rfl|hy
     . exact Ky
     . exact hmk y hy
   . refine AR qX (by omega) (fun a h0 ha=> ?_) fun b hb=> ?_
     . obtain⟨c,hc⟩:=List.exists_mem_of_ne_nil _ ha0
       obtain⟨h1,h2⟩:=cJ.1 (PK.ordered.2 c hc)
       rw[wh h0 ha]at h1
       exact zY h1 (h2.resolve_left (jq Ky).2)
     . obtain⟨c,hc⟩:=List.exists_mem_of_ne_nil _ hb0
       obtain⟨h1,h2⟩:=cJ.1 (PL.ordered.2 c hc)
       rw[oO (List.getElem?_eq_some_iff.1 hb).1 hb]at h2
       exact zY h1 (h2.resolve_left (jq (hmk b (List.mem_of_getElem? hb))).2)
   . rcases mD hy with rfl|hy
     . exact hto
     . exact xD y hy
   . show 1<=(aP n.kids (i+1) to).length;rw[cG];omega
   . show(aP n.keys i k).length+1=(aP n.kids (i+1) to).length;rw[cG,cG];omega
  have Ff:∀p∈ps2,∀m∈p.1,m≠no:=fun p hp m hm e=>(List.nodup_cons.1 jb.nodup).1 (by rw[<-e];exact List.mem_flatMap.2 ⟨p,hp,hm⟩)
  by_cases hf:Fits {n with keys:=aP n.keys i k,kids:=aP n.kids (i+1) to}
  . rw[oL hf]
    refine .inl ⟨_,wg no ps2,rfl,aW.ways (eB (n:={n with keys:=aP n.keys i k,kids:=aP n.kids (i+1) to}) ⟨hf,fun c hc=>by rw[show({n with keys:=aP n.keys i k,kids:=aP n.kids (i+1) to}:Nd).cells=[]from hc0]at hc;cases hc⟩) hno hl (hW.frame fun p hp m hm=>bS (Ff p hp m hm)),GF,?_⟩
    refine⟨⟨jb.fst.other (bS (Ne.symm l8)),jb.nodup,jb.old,jb.new,jb.iZ,fun m h1 h2=>by rw[bS fun e=>h2 (by rw[e];simp[wg])];exact jb.rest m h1 h2⟩,fun hd n1 n2 h1 h2=> .inr ?_⟩
    rw[dK]at h2
    have Vn:=c_ h2 (n:=n2) (m:={n with keys:=aP n.keys i k,kids:=aP n.kids (i+1) to}) ⟨⟨hf,fun c hc=>by rw[show({n with keys:=aP n.keys i k,kids:=aP n.kids (i+1) to}:Nd).cells=[]from hc0]at hc;cases hc⟩,rfl⟩
    have Vo:=c_ h1 hp
    subst Vo
    refine⟨by rw[Vn];show(aP n1.kids (i+1) to).length=_;rw[cG],?_⟩
    have XK:=(l6 (by omega)).1
    have Vp:=qf (b:=2) (ps:=ps.take i) fun q hq=>by
     obtain⟨j,hj,xq⟩:=fM hq
     obtain⟨kj,hkj⟩:∃kj,n1.kids[j]? =some kj:=⟨_,List.getElem?_eq_getElem (by have:=hw.1;omega)⟩
     have:=(hw.2 j kj q hkj xq).1.pages;omega
    have htb:=qf (b:=2) (ps:=ps.drop (i+1)) fun q hq=>by
     obtain⟨j,hj,xq⟩:=fN hq
     obtain⟨kj,hkj⟩:∃kj,n1.kids[j]? =some kj:=⟨_,List.getElem?_eq_getElem (by have:=hw.1;have:=(List.getElem?_eq_some_iff.1 xq).1;omega)⟩
     have:=(hw.2 j kj q hkj xq).1.pages;omega
    rw[List.length_take]at Vp
    rw[List.length_drop]at htb
    have tn:=hw.1
    rw[e1]
    simp only[List.length_append,List.length_cons]
    omega
  . obtain⟨hb,Hq⟩:=Gb (n:={n with keys:=aP n.keys i k,kids:=aP n.kids (i+1) to}) RP hl (show(aP n.kids (i+1) to).length<=30 by omega) hf
    have Hq:16<=(aP n.kids (i+1) to).length:=Hq
    obtain⟨tj,k3,JZ,GS⟩:=Cf hb
    rcases jb.fst.take with⟨t2,Q2,ht,s9,mN,Eb,GG⟩|⟨ht,hfull⟩
    . rw[sk hf hb ht]
      have BO:cD {n with keys:=aP n.keys i k,kids:=aP n.kids (i+1) to}=(aP n.kids (i+1) to).length:=by unfold cD;rw[if_neg (by show¬n.leaf=true;rw[hl];simp)]
      rw[BO]at k3
      generalize ew {n with keys:=aP n.keys i k,kids:=aP n.kids (i+1) to}=b at*
      rw[gG (n:={n with keys:=aP n.keys i k,kids:=aP n.kids (i+1) to}) hl]at JZ GS⊢
      dsimp only at JZ GS⊢
      have RQ:(aP n.keys i k).length+1=(aP n.kids (i+1) to).length:=by rw[cG,cG];omega
      obtain⟨K,hK⟩:∃K,(aP n.keys i k)[b-1]? =some K:=⟨_,List.getElem?_eq_getElem (by omega)⟩
      have Vq:(aP n.keys i k).getD (b-1) ⟨#[]⟩=K:=by rw[List.getD_eq_getElem?_getD,hK];rfl
      rw[Vq]
      obtain⟨Ti,Tj⟩:=fC.LD hW RQ tj k3 hK
      have RR:t2≠1:=by unfold ay at s9;omega
      have RS:t2≠no:=fun e=>mN (.inr (by rw[e];simp))
      have Nx:∀p∈ps2,∀m∈p.1,ef (ef Q2 no (bU ⟨false,[],(aP n.keys i k).take (b-1),(aP n.kids (i+1) to).take b⟩).1) t2 (bU ⟨false,[],(aP n.keys i k).drop b,(aP n.kids (i+1) to).drop b⟩).1 m=Q1 m:=fun p hp m hm=>by
       have hin:m∈no::ps2.flatMap Prod.fst:=List.mem_cons_of_mem _ (List.mem_flatMap.2 ⟨p,hp,hm⟩)
       have h1:m≠t2:=fun e=>mN (.inr (e▸hin))
       have h2:=Jr m hin
       rw[bS h1,bS (Ff p hp m hm),GG m (by unfold ay at h2;omega) h1]
      have hmem:∀m,m∈(no::(ps2.take b).flatMap Prod.fst)++(t2::(ps2.drop b).flatMap Prod.fst)↔m=t2\/m∈no::ps2.flatMap Prod.fst:=fun m=>by
       have:ps2.flatMap Prod.fst=(ps2.take b).flatMap Prod.fst++(ps2.drop b).flatMap Prod.fst:=by rw[<-List.flatMap_append,List.take_append_drop]
       rw[this];simp only[List.mem_append,List.mem_cons]
       constructor
       . rintro((h|h)|h|h)
         . exact .inr (.inl h)
         . exact .inr (.inr (.inl h))
         . exact .inl h
         . exact .inr (.inr (.inr h))
       . rintro(h|h|h|h)
         . exact .inr (.inl h)
         . exact .inl (.inl h)
         . exact .inl (.inr h)
         . exact .inr (.inr h)
      have xC:((no::(ps2.take b).flatMap Prod.fst)++(t2::(ps2.drop b).flatMap Prod.fst)).Perm (t2::(no::ps2.flatMap Prod.fst)):=by
       refine List.perm_middle.trans (List.Perm.cons _ (List.Perm.of_eq ?_))
       rw[List.cons_append,<-List.flatMap_append,List.take_append_drop]
      refine .inr (.inl ⟨_,K,t2,wg no (ps2.take b),wg t2 (ps2.drop b),rfl,s9,aW.ways ?_ hno rfl (Ti.frame fun p hp=>Nx p (List.mem_of_mem_take hp)),aW.ways (eB ⟨GS,fun c hc=>by cases hc⟩) s9 rfl (Tj.frame fun p hp=>Nx p (List.mem_of_mem_drop hp)),?_,?_,?_,?_,⟨?_,?_,?_,?_,?_,?_⟩,fun _=> ?_⟩)
      . rw[bS (Ne.symm RS)];exact eB ⟨JZ,fun c hc=>by cases hc⟩
      . rcases mD (List.mem_of_getElem? hK)with rfl|h
        . exact Ky
        . exact hmk K h
      . exact Ti.full (by dsimp only;rw[List.length_take];omega)
      . exact Tj.full (by dsimp only;rw[List.length_drop];omega)
      . show jC x _ ((ps2.take b).flatMap Prod.snd++(ps2.drop b).flatMap Prod.snd)
        rw[<-List.flatMap_append,List.take_append_drop];exact GF
      . refine(Eb.other (by rw[bS (Ne.symm RR),bS (Ne.symm l8)])).iff fun m=> ?_
        show _↔u m\/m∈(no::(ps2.take b).flatMap Prod.fst)++(t2::(ps2.drop b).flatMap Prod.fst)
        rw[hmem]
        constructor
        . rintro(h|h|h)
          . exact .inr (.inl h)
          . exact .inl h
          . exact .inr (.inr h)
        . rintro(h|h|h)
          . exact .inr (.inl h)
          . exact .inl h
          . exact .inr (.inr h)
      . exact xC.nodup_iff.2 (List.nodup_cons.2 ⟨fun h=>mN (.inr h),jb.nodup⟩)
      . intro m hm;exact(hmem m).2 (.inr (jb.old m hm))
      . intro m hm
        rcases(hmem m).1 hm with h|h
        . subst h;exact .inr fun h=>mN (.inl h)
        . exact jb.new m h
      . have h1:=xC.length_eq
        have h2:=jb.iZ
        have h1:((wg no (ps2.take b)).1++(wg t2 (ps2.drop b)).1).length=(t2::(no::ps2.flatMap Prod.fst)).length:=h1
        rw[h1];simp only[List.length_cons]at h2⊢;omega
      . intro m h1 h2
        have h3:=fun h=>h2 ((hmem m).2 h)
        rw[bS fun e=>h3 (.inl e),bS fun e=>h3 (.inr (by rw[e];simp)),GG m h1 fun e=>h3 (.inl e)]
        exact jb.rest m h1 fun h=>h3 (.inr h)
      . have h1:=hw.Jq
        rw[cG]at Hq
        refine⟨?_,fun n1 h2=>by rw[c_ h2 hp];omega⟩
        show 16<=(no::ps.flatMap Prod.fst).length
        simp only[List.length_cons];omega
    . rw[qb hf hb ht]
      refine .inr (.inr ⟨rfl,(no::ps2.flatMap Prod.fst).filter (fun m=>decide (m∉(wg no ps).1)),?_,fun m hm=> ?_,fun _ _ n1 h2=>by rw[c_ h2 hp];rw[cG]at Hq;omega⟩)
      . have h1:=me (a:=(wg no ps).1++(no::ps2.flatMap Prod.fst).filter (fun m=>decide (m∉(wg no ps).1))) (b:=no::ps2.flatMap Prod.fst) ?_ ?_
        . have h2:=jb.iZ
          rw[List.length_append]at h1;omega
        . refine List.nodup_append.2 ⟨hn,jb.nodup.sublist List.filter_sublist,fun a ha b hb e=> ?_⟩
          subst e
          exact(of_decide_eq_true (List.mem_filter.1 hb).2) ha
        . intro m hm
          rcases List.mem_append.1 hm with h|h
          . exact jb.old m h
          . exact(List.mem_filter.1 h).1
      . rcases hfull m hm with h|h
        . exact .inl h
        . by_cases h2:m∈(wg no ps).1
          . exact .inl (hu m h2)
          . exact .inr (List.mem_filter.2 ⟨h,decide_eq_true h2⟩)
 .
  rw[gZ hrd hl (by rw[hgd];exact hres)]
  exact .inr (.inr ⟨rfl,l,by omega,hfull,fun _ h=>absurd h (by omega)⟩)
theorem aW.insert{x:Cell}(hx:aC x=true)(gA:x.val.f<2^64/\x.new.f<2^64):∀{d:Nat} {no:Int} {lo hi:ByteArray} {g:aG} {Q:ah} {r:Int} {u:Int->Prop},aW Q d no lo hi g->jG Q r u->(∀m∈g.1,u m)->g.1.Nodup->bW x.key lo hi=true->
 ∀{f:Nat},d<f->Grown Q r u d no lo hi g x (bF x f Q no):=by
 intro d
 induction d with
 |zero=>
  rintro no lo hi g Q r u ⟨n,h1,h2,h3,rfl,h5⟩ hF hu hn mM f hf
  obtain⟨f,rfl⟩:∃f',f=f'+1:=⟨f-1,by omega⟩
  rw[ie (dZ h2 h1) h3]
  exact AQ hF (hu no (by simp)) h1 h3 h5 hx gA mM
 |succ d ih=>
  rintro no lo hi g Q r u ⟨n,ps,h1,h2,h3,h4,h5,rfl⟩ hF hu hn mM f hf
  obtain⟨f,rfl⟩:∃f',f=f'+1:=⟨f-1,by omega⟩
  obtain⟨_,_,qX,_,_,_,nT⟩:=(aX h3).1 h1.1.nd.may
  have hil:=gu n.keys x.key
  obtain⟨ct,hk⟩:∃ct,n.kids[bM n.keys x.key]? =some ct:=⟨_,List.getElem?_eq_getElem (by omega)⟩
  obtain⟨p,hp⟩:∃p,ps[bM n.keys x.key]? =some p:=⟨_,List.getElem?_eq_getElem (by omega)⟩
  have hsub:p.1.Sublist (ps.flatMap Prod.fst):=by
   rw[fR hp]
   exact(List.sublist_append_left _ _).trans (List.sublist_append_right _ _)
  refine Io hF hu hn h1 h3 ⟨h4,h5⟩ mM rfl hk hp (ih (h5 _ ct p hk hp).1 hF (fun m hm=>hu m (List.mem_cons_of_mem _ (hsub.subset hm))) ((List.nodup_cons.1 hn).2.sublist hsub) (r3 qX mM) (by omega))
end Go.Pl
end
section
namespace Go.Pl
open Go Go.Sx
abbrev kP:ByteArray:=⟨#[]⟩
def Cg(Q:ah)(d:Nat)(no:Int):Prop:=d<=2/\(d=2->∀n,bC (Q no) n->n.kids.length<=8)
def aU(Q:ah)(g:aG):Prop:=
 (jG Q 0 (fun _=>False)/\g=([],[]))\/∃d no,aW Q d no kP kP g/\g.1.Nodup/\jG Q no (fun m=>m∈g.1)/\g.2≠[]/\Cg Q d no
theorem pR{k:ByteArray}:bW k kP kP=true:=cJ.2 ⟨B5 k,.inl rfl⟩
theorem aU.rising{Q:ah}{g:aG}(h:aU Q g):rising (keysOf g.2):=by
 rcases h with⟨_,rfl⟩|⟨d,no,h,_⟩
 . exact List.Pairwise.nil
 . exact h.ordered.1
theorem aU.fst{Q:ah}{g:aG}(h:aU Q g):∃r,jG Q r (fun m=>m∈g.1)/\(r=0\/ay r):=by
 rcases h with⟨h,rfl⟩|⟨d,no,h,_,hF,_⟩
 . exact⟨0,h.iff fun m=>by simp,.inl rfl⟩
 . exact⟨no,hF,.inr h.may⟩
theorem aU.all{Q:ah}{g:aG}(h:aU Q g):fB (aK Q)= .ok g:=by
 rcases h with⟨h,rfl⟩|⟨d,no,h,hn,hF,_,gW⟩
 . exact mH (h.b6 (.inl rfl)) rfl
 . have hm:=h.may
   rw[oA (hF.b6 (.inr hm)) (by unfold ay at hm;omega)]
   have:=h.through (f:=32) (st:=([],[])) (by have:=gW.1;omega) (by simpa using hn) (by
    have:=rB hn fun m hm=>hF.may hm
    simp only[List.nil_append];omega)
   simpa using this
theorem aU.check{Q:ah}{g:aG}(h:aU Q g):dQ (aK Q)= .ok ():=by
 obtain⟨r,hF,_⟩:=h.fst
 have h1:aK Q 1=(0,Q 1):=by unfold aK;rw[if_pos (by decide)]
 have hw:bn (aK Q 1)=(0,Q 1):=by rw[h1];unfold bn;rw[if_neg (by simp),if_neg (by dsimp only;rw[hF.len];simp)]
 have Oi:z7 (bn (aK Q 1)).2 g 32:=fun no _=>by
  rw[hw]
  have:=hF.bit (no:Nat)
  cases hb:hasB (Q 1) (no:Nat)with
  |true=>exact(decide_eq_true (this.1 hb)).symm
  |false=>exact(decide_eq_false fun e=>by rw[this.2 e]at hb;cases hb).symm
 have ho:∃d,iK (aK Q) g= .ok d:=by
  rcases h with⟨_,rfl⟩|⟨d,no,h,hn,hF,hne,gW⟩
  . exact⟨0,sZ rfl⟩
  . obtain⟨l,hl⟩:=h.head
    refine⟨d,?_⟩
    rw[lQ (by rw[hl];simp),show g.1.getD 0 0=no by rw[hl];rfl]
    exact h.check (by have:=gW.1;omega) (.inl rfl)
 obtain⟨d,ho⟩:=ho
 exact qS h.all ho (by rw[hw]) Oi
theorem aU.get{Q:ah}{g:aG}(h:aU Q g)(k:ByteArray):∃o,getTop (aK Q) k= .ok o/\Found g.2 k o:=by
 rcases h with⟨h,rfl⟩|⟨d,no,h,hn,hF,_,gW⟩
 . exact⟨none,by rw[qd (h.b6 (.inl rfl))];exact uK rfl,fun c hc=>by cases hc⟩
 . rw[qd (hF.b6 (.inr h.may))]
   exact h.get (by have:=gW.1;omega) pR
theorem Dy{Q:ah}(h:jG Q 0 (fun _=>False)){x:Cell}(hx:aC x=true)(gA:x.val.f<2^64/\x.new.f<2^64):∃Q' n,dg Q x= .ok Q'/\aU Q' ([n],[x])/\(∀m,m≠1->m≠n->Q' m=Q m):=by
 rw[kE (h.b6 (.inl rfl)) rfl]
 rcases h.take with⟨n,Q1,ht,hn,_,hF,hQ⟩|⟨_,hf⟩
 . have Mq:n≠1:=by unfold ay at hn;omega
   have hfit:Fits ⟨true,[x],[],[]⟩:=by
    refine⟨(cj rfl).2 ⟨rfl,rfl,fun c hc=>by rw[List.mem_singleton]at hc;subst hc;exact hx,List.pairwise_singleton _ _⟩,?_⟩
    have:=gz hx
    rw[fV rfl];dsimp only
    rw[dI (by simp) (by simp)];simp only[List.flatMap_cons,List.flatMap_nil,List.append_nil];omega
   obtain⟨Eb,GG⟩:=hF.set (no:=n) (by unfold ay at hn;omega) (by unfold ay at hn;omega)
   refine⟨ef (cq Q1 n) n (bU ⟨true,[x],[],[]⟩).1,n,?_,.inr ⟨0,n,⟨⟨true,[x],[],[]⟩,eB ⟨hfit,fun c hc=>by rw[List.mem_singleton]at hc;subst hc;exact gA⟩,hn,rfl,rfl,fun c _=>pR⟩,by simp,?_,by simp,by omega,fun e=>by omega⟩,fun m h1 h2=>by rw[bS h2,GG m h1,hQ m h1 h2]⟩
   . refine(aS ht).trans ?_
     unfold ja;rw[if_pos (fS.2 hfit)]
   . exact(Eb.other (bS (Ne.symm Mq))).iff fun m=>by simp
 . exact(hf 2 (by decide)).elim
end Go.Pl
end
section
namespace Go.Pl
open Go Go.Sx
theorem Ch{l:List Int}(h:∀m,ay m->m∈l):30<=l.length:=by
 have hn:uses.Nodup:=by unfold uses;decide
 have:=me hn fun m hm=>h m (by
  obtain⟨i,hi,rfl⟩:=List.mem_map.1 hm
  have:=List.mem_range.1 hi
  unfold ay;omega)
 rw[yq]at this;exact this
theorem uQ{Q:ah}{no:Int}{lo hi:ByteArray}{g:aG}(h:aW Q 0 no lo hi g)(h0:g.2≠[]):g.1.length=1/\g.1.length<=g.2.length:=by
 obtain⟨n,_,_,_,rfl,_⟩:=h
 have:=List.length_pos_iff.2 h0
 exact⟨rfl,this⟩
theorem nL{b:Nat}:∀{ps:List aG},(∀p∈ps,p.1.length<=p.2.length+b)->(ps.flatMap Prod.fst).length<=(ps.flatMap Prod.snd).length+b*ps.length
 |[],_=>Nat.le_refl _
 |p::ps,h=>by
  have h1:=h p (by simp)
  have h2:=nL (ps:=ps) fun q hq=>h q (by simp[hq])
  rw[List.flatMap_cons,List.flatMap_cons,List.length_append,List.length_append,List.length_cons,Nat.mul_add];omega
theorem uR{Q:ah}{no:Int}{lo hi:ByteArray}{g:aG}(h:aW Q 1 no lo hi g):g.1.length<=g.2.length+1:=by
 obtain⟨n,ps,_,_,_,h4,h5,rfl⟩:=h
 have:=nL (b:=0) (ps:=ps) fun p hp=>by
  obtain⟨i,hi⟩:=List.getElem?_of_mem hp
  obtain⟨ct,hk⟩:∃ct,n.kids[i]? =some ct:=⟨_,List.getElem?_eq_getElem (by have:=(List.getElem?_eq_some_iff.1 hi).1;omega)⟩
  obtain⟨h6,h7⟩:=h5 i ct p hk hi
  exact(uQ h6 h7).2
 simp only[List.length_cons];omega
theorem aW.cells{Q:ah}{d:Nat}{no:Int}{lo hi:ByteArray}{g:aG}(h:aW Q d no lo hi g)(h0:g.2≠[]):
 (d=0->g.1.length=1)/\(d=1->g.1.length<=g.2.length+1)/\(d=2->∀n,bC (Q no) n->g.1.length<=g.2.length+n.kids.length+1):=by
 refine⟨fun e=> ?_,fun e=> ?_,fun e n hn=> ?_⟩
 . subst e;exact(uQ h h0).1
 . subst e;exact uR h
 . subst e
   obtain⟨n',ps,h1,_,_,h4,h5,rfl⟩:=h
   rw[c_ hn h1]
   have:=nL (b:=1) (ps:=ps) fun p hp=>by
    obtain⟨i,hi⟩:=List.getElem?_of_mem hp
    obtain⟨ct,hk⟩:∃ct,n'.kids[i]? =some ct:=⟨_,List.getElem?_eq_getElem (by have:=(List.getElem?_eq_some_iff.1 hi).1;omega)⟩
    exact uR (h5 i ct p hk hi).1
   simp only[List.length_cons];omega
theorem aU.put{Q:ah}{g:aG}(h:aU Q g){x:Cell}(hx:aC x=true)(gA:x.val.f<2^64/\x.new.f<2^64):
 (∃Q' g',dg Q x= .ok Q'/\aU Q' g'/\jC x g.2 g'.2)\/(dg Q x= .error 4/\28<=g.1.length/\20<=g.2.length):=by
 rcases h with⟨hF,rfl⟩|⟨d,no,hT,hn,hF,hne,gW⟩
 . obtain⟨Q',n,h1,h2,_⟩:=Dy hF hx gA
   exact .inl ⟨Q',_,h1,h2,fun c=>by simp⟩
 . have hno:=hT.may
   have h0:no≠0:=by unfold ay at hno;omega
   have j3:=hF.b6 (.inr hno)
   have Th:=rB hn fun m hm=>hF.may hm
   have hd:=gW.1
   rcases hT.insert hx gA hF (fun m hm=>hm) hn pR (f:=32) (by omega)with⟨Q',g',hres,Qh,hP,hS,hk⟩|⟨Q1,k,to,ga,gb,hres,hto,PK,PL,hmk,ha0,hb0,hP,hS,l6⟩|⟨hres,l,Vk,hfull,RU⟩
   . refine .inl ⟨Q',g',nG j3 h0 hres rfl,.inr ⟨d,no,Qh,hS.nodup,hS.fst.iff fun m=>⟨fun h=>h.elim (hS.old m) id,.inr⟩,?_,hd,fun e n' hn'=> ?_⟩,hP⟩
     . intro e;have:=(hP x).2 (.inl rfl);rw[e]at this;cases this
     . subst e
       obtain⟨n,ps,hp,_⟩:=hT
       have h8:=gW.2 rfl n hp
       rcases hk (by omega) n n' hp hn' with h|⟨h1,h2⟩<;>omega
   . have Qi:d<=1:=by
      refine Nat.le_of_not_lt fun h2=> ?_
      obtain rfl:d=2:=by omega
      obtain⟨n,ps,hp,_⟩:=hT
      have h8:=gW.2 rfl n hp
      have:=(l6 (by omega)).2 n hp
      omega
     have Kz:to≠0:=by unfold ay at hto;omega
     rw[kF j3 h0 hres Kz]
     rcases hS.fst.take with⟨t,Q2,ht,PM,mN,Eb,GG⟩|⟨ht,hfull⟩
     . have Tk:t≠1:=by unfold ay at PM;omega
       have hfit:Fits ⟨false,[],[k],[no,to]⟩:=oP ((aX rfl).2 ⟨rfl,fun y hy=>by rw[List.mem_singleton]at hy;subst hy;exact hmk,List.pairwise_singleton _ _,fun y hy=>by
        rcases List.mem_cons.1 hy with rfl|hy
        . exact hno
        . rw[List.mem_singleton]at hy;subst hy;exact hto,by simp,by simp,by simp⟩) rfl (by simp)
       obtain⟨Vr,Tl⟩:=(Eb.other (Q':=ef Q2 t (bU ⟨false,[],[k],[no,to]⟩).1) (bS (Ne.symm Tk))).set (no:=t) (by unfold ay at PM;omega) (by unfold ay at PM;omega)
       have hfr:∀m∈ga.1++gb.1,cq (ef Q2 t (bU ⟨false,[],[k],[no,to]⟩).1) t m=Q1 m:=fun m hm=>by
        have Mn:m≠t:=fun e=>mN (.inr (e▸hm))
        have pE:m≠1:=by have:=hS.fst.may (.inr hm);unfold ay at this;omega
        rw[Tl m pE,bS Mn,GG m pE Mn]
       have hW:fC (cq (ef Q2 t (bU ⟨false,[],[k],[no,to]⟩).1) t) d ⟨false,[],[k],[no,to]⟩ kP kP [ga,gb]:=by
        refine⟨rfl,fun i ct p hk hp=> ?_⟩
        match i,hk,hp with
        |0,hk,hp=>injection hk with hk;injection hp with hp;subst hk hp;exact⟨PK.frame fun m hm=>hfr m (List.mem_append_left _ hm),ha0⟩
        |1,hk,hp=>injection hk with hk;injection hp with hp;subst hk hp;exact⟨PL.frame fun m hm=>hfr m (List.mem_append_right _ hm),hb0⟩
        |i+2,hk,hp=>cases hk
       have Ec:bC (cq (ef Q2 t (bU ⟨false,[],[k],[no,to]⟩).1) t t) ⟨false,[],[k],[no,to]⟩:=by rw[Tl t Tk];exact eB ⟨hfit,fun c hc=>by cases hc⟩
       have e1:(wg t [ga,gb]).1=t::(ga.1++gb.1):=by simp[wg]
       have e2:(wg t [ga,gb]).2=ga.2++gb.2:=by simp[wg]
       refine .inl ⟨_,wg t [ga,gb],(aS ht).trans ((aS (by unfold ja;rw[if_pos (fS.2 hfit)])).trans rfl),.inr ⟨d+1,t,aW.ways Ec PM rfl hW,?_,?_,?_,by omega,fun e n' hn'=> ?_⟩,by rw[e2];exact hP⟩
       . rw[e1];exact List.nodup_cons.2 ⟨fun h=>mN (.inr h),hS.nodup⟩
       . rw[e1]
         refine Vr.iff fun m=> ?_
         rw[List.mem_cons]
         constructor
         . rintro(h|h|h)
           . exact .inl h
           . exact .inr (hS.old m h)
           . exact .inr h
         . rintro(h|h)
           . exact .inl h
           . exact .inr (.inr h)
       . rw[e2];simp[ha0]
       . rw[c_ hn' Ec];show[no,to].length<=8;simp
     . refine .inr ⟨(bz ht),?_⟩
       have h1:=Ch (l:=ga.1++gb.1) fun m hm=>(hfull m hm).elim (hS.old m) id
       have h2:=hS.iZ
       have h3:=hT.cells hne
       rcases Nat.lt_or_ge 0 d with h4|h4
       . obtain rfl:d=1:=by omega
         have h5:=h3.2.1 rfl
         exact⟨by omega,by omega⟩
       . obtain rfl:d=0:=by omega
         have h5:=h3.1 rfl
         exact⟨by omega,by omega⟩
   . refine .inr ⟨by rw[mE j3 h0];exact bz hres,?_⟩
     have h1:=Ch (l:=g.1++l) fun m hm=>List.mem_append.2 (hfull m hm)
     rw[List.length_append]at h1
     have h3:=hT.cells hne
     rcases Nat.lt_trichotomy d 1 with h4|h4|h4
     . obtain rfl:d=0:=by omega
       have h5:=h3.1 rfl
       exact⟨by omega,by omega⟩
     . subst h4
       have h5:=h3.2.1 rfl
       exact⟨by omega,by omega⟩
     . obtain rfl:d=2:=by omega
       obtain⟨n,ps,hp,_⟩:=hT
       have h8:=gW.2 rfl n hp
       have h5:=h3.2.2 rfl n hp
       have h6:l.length<=1:=by
        refine Nat.le_of_not_lt fun h7=> ?_
        have:=RU (by omega) (by omega) n hp
        omega
       exact⟨by omega,by omega⟩
end Go.Pl
end
section
namespace Go.Pl
open Go Go.Sx
theorem Dz{cells:List Cell}(hr:rising (keysOf cells)){k:ByteArray}(he:(keysOf cells)[aL (keysOf cells) k]? =some k):rising (keysOf (bH cells (aL (keysOf cells) k)))/\jr k cells (bH cells (aL (keysOf cells) k))/\(bH cells (aL (keysOf cells) k)).length+1=cells.length:=by
 obtain⟨z,nS,zu⟩:=ei he
 have hlt:=(List.getElem?_eq_some_iff.1 nS).1
 have hsub:(bH cells (aL (keysOf cells) k)).Sublist cells:=by
  unfold bH
  conv=>rhs;rw[<-List.take_append_drop (aL (keysOf cells) k) cells]
  exact List.Sublist.append (List.Sublist.refl _) (by rw[show aL (keysOf cells) k+1=aL (keysOf cells) k+1 from rfl,<-List.drop_drop];exact(List.drop_sublist _ _))
 refine⟨?_,fun c=>⟨fun hc=>⟨hsub.subset hc,fun e=> ?_⟩,fun⟨hc,hk⟩=> ?_⟩,?_⟩
 . unfold keysOf;exact hr.sublist (hsub.map _)
 . have Vs:=key_inj hr (hsub.subset hc) (List.mem_of_getElem? nS) (e.trans zu.symm)
   subst Vs
   unfold bH at hc
   rcases List.mem_append.1 hc with hc|hc
   . obtain⟨j,hj,Qj⟩:=fM hc
     have:=eX hr hj (bG Qj) (bG nS);rw[aF]at this;cases this
   . obtain⟨j,hj,Qj⟩:=fN hc
     have:=eX hr (show aL (keysOf cells) k<j by omega) (bG nS) (bG Qj);rw[aF]at this;cases this
 . obtain⟨j,hj⟩:=List.getElem?_of_mem hc
   unfold bH
   rcases Nat.lt_trichotomy j (aL (keysOf cells) k)with h|h|h
   . exact List.mem_append_left _ (List.mem_of_getElem? (i:=j) (by rw[List.getElem?_take_of_lt h];exact hj))
   . subst h;rw[nS]at hj;injection hj with hj;subst hj;exact absurd zu hk
   . exact List.mem_append_right _ (List.mem_of_getElem? (i:=j-(aL (keysOf cells) k+1)) (by rw[List.getElem?_drop,show aL (keysOf cells) k+1+(j-(aL (keysOf cells) k+1))=j by omega];exact hj))
 . unfold bH;rw[List.length_append,List.length_take,List.length_drop];omega
theorem sw{α:Type}{f:α->List UInt8}{a b:List α}(h:a.Sublist b):(a.flatMap f).length<=(b.flatMap f).length:=by
 induction h with
 |slnil=>exact Nat.le_refl _
 |cons x _ ih=>rw[List.flatMap_cons,List.length_append];omega
 |cons_cons x _ ih=>rw[List.flatMap_cons,List.flatMap_cons,List.length_append,List.length_append];omega
theorem DA{n:Nd}(hf:kN n)(hl:n.leaf=true){cells:List Cell}(hs:cells.Sublist n.cells):kN {n with cells:=cells}:=by
 obtain⟨h1,h2,h3,h4⟩:=(cj hl).1 hf.nd.may
 have hlen:=fV hl
 have hb:=hf.fits.2
 have hg:=rz (f:=ax) (b:=4) (l:=cells) fun c hc=>rA (h3 c (hs.subset hc))
 have hfl:(cells.flatMap ax).length<=(n.cells.flatMap ax).length:=sw hs
 have hp:=eC (n.cells.length:Int)
 refine⟨⟨(cj (n:={n with cells:=cells}) hl).2 ⟨h1,h2,fun c hc=>h3 c (hs.subset hc),h4.sublist (hs.map _)⟩,?_⟩,fun c hc=>hf.fl c (hs.subset hc)⟩
 rw[fV (n:={n with cells:=cells}) hl]
 show 1+(put (cells.length:Int)).length+(cells.flatMap ax).length<=256
 rw[dI (by omega) (by omega)];omega
end Go.Pl
end
section
namespace Go.Pl
open Go Go.Sx
structure wY(Q Q':ah)(r:Int)(u:Int->Prop)(a b:List Int):Prop where
 fst:jG Q' r (fun m=>u m/\(m∈a->m∈b))
 nodup:b.Nodup
 old:∀m∈b,m∈a
 rest:∀m,m≠1->m∉a->Q' m=Q m
def vO(Q:ah)(r:Int)(u:Int->Prop)(d:Nat)(no:Int)(lo hi:ByteArray)(g:aG)(k:ByteArray)(res:TE ((Bool×Bool)×ah)):Prop:=
 (res= .ok ((false,false),Q)/\∀c∈g.2,c.key≠k)\/
 (∃Q' g',res= .ok ((true,false),Q')/\(∃c∈g.2,c.key=k)/\aW Q' d no lo hi g'/\g'.2≠[]/\jr k g.2 g'.2/\wY Q Q' r u g.1 g'.1/\∀n n',bC (Q no) n->bC (Q' no) n'->n'.kids.length<=n.kids.length)\/
 (∃Q',res= .ok ((true,true),Q')/\(∃c∈g.2,c.key=k)/\jr k g.2 []/\wY Q Q' r u g.1 [])
theorem yW{Q:ah}{r:Int}{u:Int->Prop}{no:Int}{lo hi:ByteArray}{n:Nd}{k:ByteArray}{f:Nat}(hF:jG Q r u)(hu:u no)(hp:bC (Q no) n)(hl:n.leaf=true)(hin:∀c∈n.cells,bW c.key lo hi=true):vO Q r u 0 no lo hi ([no],n.cells) k (bB k (f+1) Q no):=by
 have hno:=hF.may hu
 have l8:no≠1:=by unfold ay at hno;omega
 have hrd:=dZ hno hp
 have hr:=hp.1.nd.kV
 have e:bB k (f+1) Q no=(bN (aK Q) no).bind fun n=>
  if n.leaf=true then
   if(keysOf n.cells)[aL (keysOf n.cells) k]? =some k then
    (iW Q no {n with cells:=bH n.cells (aL (keysOf n.cells) k)} (n.cells.length-1)).bind fun x=> .ok ((true,x.1),x.2)
   else .ok ((false,false),Q)
  else(bB k f Q (n.kids.getD (bM n.keys k) 0)).bind fun x=>
   if x.1.2=false then .ok ((x.1.1,false),x.2)
   else(iW x.2 no {n with keys:=if 0<n.keys.length then bH n.keys (bM n.keys k-1)else n.keys,kids:=bH n.kids (bM n.keys k)} (n.kids.length-1)).bind fun y=> .ok ((x.1.1,y.1),y.2):=rfl
 rw[e,show(bN (aK Q) no).bind _=_ from aS hrd,if_pos hl]
 by_cases he:(keysOf n.cells)[aL (keysOf n.cells) k]? =some k
 . rw[if_pos he]
   obtain⟨h1,h2,h3⟩:=Dz hr he
   obtain⟨z,nS,zu⟩:=ei he
   have hex:∃c∈n.cells,c.key=k:=⟨z,List.mem_of_getElem? nS,zu⟩
   by_cases qq:n.cells.length-1=0
   . obtain⟨Q',hfr,Qk,Ql⟩:=hF.free hu
     have RV:bH n.cells (aL (keysOf n.cells) k)=[]:=List.length_eq_zero_iff.1 (by omega)
     rw[RV]at h2
     refine .inr (.inr ⟨Q',?_,hex,h2,⟨Qk.iff fun m=>⟨fun h=>⟨h.1,fun h4=>absurd (List.mem_singleton.1 h4) h.2⟩,fun h=>⟨h.1,fun h4=>by have:=h.2 (by rw[h4];simp);cases this⟩⟩,by simp,fun m hm=>(by cases hm),fun m h4 _=>Ql m h4⟩⟩)
     rw[kC qq,hfr];rfl
   . have hsub:(bH n.cells (aL (keysOf n.cells) k)).Sublist n.cells:=by
      unfold bH
      conv=>rhs;rw[<-List.take_append_drop (aL (keysOf n.cells) k) n.cells]
      exact List.Sublist.append (List.Sublist.refl _) (by rw[<-List.drop_drop];exact(List.drop_sublist _ _))
     have hfit:=DA hp.1 hl hsub
     refine .inr (.inl ⟨ef Q no (bU {n with cells:=bH n.cells (aL (keysOf n.cells) k)}).1,([no],bH n.cells (aL (keysOf n.cells) k)),?_,hex,⟨{n with cells:=bH n.cells (aL (keysOf n.cells) k)},eB hfit,hno,hl,rfl,fun c hc=>hin c (hsub.subset hc)⟩,?_,h2,⟨(hF.other (bS (Ne.symm l8))).iff fun m=>⟨fun h=>⟨h,id⟩,fun h=>h.1⟩,by simp,fun m hm=>hm,fun m h4 h5=>bS fun e=>h5 (by rw[e];simp)⟩,fun n1 n2 g1 g2=> ?_⟩)
     . rw[kD qq,show ja Q no {n with cells:=bH n.cells (aL (keysOf n.cells) k)}= .ok (ef Q no (bU {n with cells:=bH n.cells (aL (keysOf n.cells) k)}).1) by unfold ja;rw[if_pos (fS.2 hfit.fits)]];rfl
     . intro e;have:=congrArg List.length e;simp only[List.length_nil]at this;omega
     . rw[dK]at g2
       rw[c_ g1 hp,c_ (m:={n with cells:=bH n.cells (aL (keysOf n.cells) k)}) g2 ⟨hfit,rfl⟩];exact Nat.le_refl _
 . rw[if_neg he]
   refine .inl ⟨rfl,fun c hc e=> ?_⟩
   have:=nK hr k
   rw[jh he]at this
   exact this c hc e
end Go.Pl
end
section
namespace Go.Pl
open Go Go.Sx
theorem iz{α:Type}{l:List α}{i:Nat}(hi:i<l.length)(j:Nat):(bH l i)[j]? =if j<i then l[j]?else l[j+1]? :=by
 unfold bH
 by_cases h:j<i
 . rw[if_pos h,List.getElem?_append_left (by rw[List.length_take];omega),List.getElem?_take_of_lt h]
 . rw[if_neg h,List.getElem?_append_right (by rw[List.length_take];omega),List.length_take,Nat.min_eq_left (by omega),List.getElem?_drop,show i+1+(j-i)=j+1 by omega]
theorem uS{α:Type}(l:List α)(i:Nat):(bH l i).Sublist l:=by
 unfold bH
 conv=>rhs;rw[<-List.take_append_drop i l]
 exact List.Sublist.append (List.Sublist.refl _) (by rw[<-List.drop_drop];exact(List.drop_sublist _ _))
theorem yu{α β:Type}{ps:List α}{f:α->List β}{i:Nat}:(bH ps i).flatMap f=(ps.take i).flatMap f++(ps.drop (i+1)).flatMap f:=by
 unfold bH;rw[List.flatMap_append]
theorem Ci{l:List ByteArray}(h:∀k∈l,k≠⟨#[]⟩){i:Nat}(hi:i<l.length):l.getD i ⟨#[]⟩≠⟨#[]⟩:=by
 rw[List.getD_eq_getElem?_getD,List.getElem?_eq_getElem hi];exact h _ (List.getElem_mem hi)
theorem aW.Js{Q:ah}:∀{d:Nat} {no:Int} {lo hi lo' hi':ByteArray} {g:aG},aW Q d no lo hi g->(∀k,cC k lo=false->cC k lo'=false)->(∀k,(hi=⟨#[]⟩\/cC k hi=true)->hi'=⟨#[]⟩\/cC k hi'=true)->aW Q d no lo' hi' g:=by
 intro d
 induction d with
 |zero=>
  rintro no lo hi lo' hi' g ⟨n,h1,h2,h3,h4,h5⟩ hL hH
  refine⟨n,h1,h2,h3,h4,fun c hc=> ?_⟩
  obtain⟨h6,h7⟩:=cJ.1 (h5 c hc)
  exact cJ.2 ⟨hL _ h6,hH _ h7⟩
 |succ d ih=>
  rintro no lo hi lo' hi' g ⟨n,ps,h1,h2,h3,h4,h5,h6⟩ hL hH
  refine⟨n,ps,h1,h2,h3,h4,fun i ct p hk hp=> ?_,h6⟩
  obtain⟨h7,h8⟩:=h5 i ct p hk hp
  refine⟨ih h7 (fun k hk=> ?_) (fun k hk=> ?_),h8⟩
  . unfold b7 at hk⊢
    by_cases h0:0<i
    . rw[if_pos h0]at hk⊢;exact hk
    . rw[if_neg h0]at hk⊢;exact hL k hk
  . unfold bE at hk⊢
    by_cases h0:i<n.keys.length
    . rw[if_pos h0]at hk⊢;exact hk
    . rw[if_neg h0]at hk⊢;exact hH k hk
theorem fo.cut{Q Q0:ah}{d:Nat}{n:Nd}{lo hi:ByteArray}{ps:List aG}{i:Nat}(h:fo Q d n lo hi ps i)(nT:n.keys.length+1=n.kids.length)(h2:2<=n.kids.length)(GU:i<n.kids.length)(hne:∀k∈n.keys,k≠⟨#[]⟩)
 (hw:fC Q0 d n lo hi ps):fC Q d (dL n i) lo hi (bH ps i):=by
 have hps:=h.1
 obtain⟨RW,MP⟩:∃ct,n.kids[i]? =some ct:=⟨_,List.getElem?_eq_getElem GU⟩
 obtain⟨p0,Qm⟩:∃p,ps[i]? =some p:=⟨_,List.getElem?_eq_getElem (by omega)⟩
 obtain⟨MQ,RX⟩:=hw.2 i RW p0 MP Qm
 obtain⟨c,hc⟩:=List.exists_mem_of_ne_nil _ RX
 obtain⟨ki,tr⟩:=cJ.1 (MQ.ordered.2 c hc)
 have hkeys:(dL n i).keys=bH n.keys (i-1):=by unfold dL;dsimp only;rw[if_pos (by omega)]
 have xD:(dL n i).kids=bH n.kids i:=rfl
 refine⟨by rw[xD,dG GU,dG (by omega),hps],fun j kj p hkj hp=> ?_⟩
 rw[xD,iz GU]at hkj
 rw[iz (by omega)]at hp
 rw[hkeys]
 have Jt:(bH n.keys (i-1)).length=n.keys.length-1:=dG (by omega)
 by_cases hj:j<i
 . rw[if_pos hj]at hkj hp
   obtain⟨h3,h4⟩:=h.2 j kj p (by omega) hkj hp
   have e1:b7 (bH n.keys (i-1)) lo j=b7 n.keys lo j:=by
    unfold b7
    by_cases h0:0<j
    . rw[if_pos h0,if_pos h0,List.getD_eq_getElem?_getD,iz (by omega),if_pos (by omega),List.getD_eq_getElem?_getD]
    . rw[if_neg h0,if_neg h0]
   refine⟨h3.Js (fun k hk=>by rw[e1];exact hk) (fun k hk=> ?_),h4⟩
   unfold bE
   rw[Jt,List.getD_eq_getElem?_getD,iz (by omega)]
   by_cases h5:j<i-1
   . rw[if_pos (by omega),if_pos h5]
     unfold bE at hk
     rw[if_pos (by omega),List.getD_eq_getElem?_getD]at hk;exact hk
   . obtain rfl:j=i-1:=by omega
     rw[if_neg (Nat.lt_irrefl _),show i-1+1=i by omega]
     unfold bE at hk tr
     rw[if_pos (by omega)]at hk
     unfold b7 at ki
     rw[if_pos (by omega)]at ki
     have qq:∀z,(z=(⟨#[]⟩:ByteArray)\/cC c.key z=true)->z=⟨#[]⟩\/cC k z=true:=fun z hz=>by
      rcases hz with hz|hz
      . exact .inl hz
      . rcases hk with hk|hk
        . exact absurd hk (Ci hne (by omega))
        . exact .inr (bD hk (zY ki hz))
     by_cases h6:i<n.keys.length
     . rw[if_pos h6]at tr
       rw[if_pos (by omega),<-List.getD_eq_getElem?_getD];exact qq _ tr
     . rw[if_neg h6]at tr
       rw[if_neg (by omega)];exact qq _ tr
 . rw[if_neg hj]at hkj hp
   obtain⟨h3,h4⟩:=h.2 (j+1) kj p (by omega) hkj hp
   refine⟨h3.Js (fun k hk=> ?_) (fun k hk=> ?_),h4⟩
   . unfold b7 at hk⊢
     rw[if_pos (by omega),show j+1-1=j by omega]at hk
     by_cases h0:0<j
     . rw[if_pos h0,List.getD_eq_getElem?_getD,iz (by omega),if_neg (by omega),show j-1+1=j by omega,<-List.getD_eq_getElem?_getD];exact hk
     . obtain rfl:j=0:=by omega
       obtain rfl:i=0:=by omega
       rw[if_neg (Nat.lt_irrefl _)]
       unfold b7 at ki
       rw[if_neg (Nat.lt_irrefl _)]at ki
       unfold bE at tr
       rw[if_pos (by omega)]at tr
       rcases tr with tr|tr
       . exact absurd tr (Ci hne (by omega))
       . refine Bool.eq_false_iff.2 fun h7=> ?_
         have:=bD (E9 h7 ki) tr
         rw[hk]at this;cases this
   . unfold bE at hk⊢
     rw[Jt]
     by_cases h6:j+1<n.keys.length
     . rw[if_pos (by omega),List.getD_eq_getElem?_getD,iz (by omega),if_neg (by omega),<-List.getD_eq_getElem?_getD];rw[if_pos h6]at hk;exact hk
     . rw[if_neg (by omega)];rw[if_neg h6]at hk;exact hk
theorem jr.mid{k:ByteArray}{a p q b:List Cell}(h:jr k p q)(ha:∀c∈a,c.key≠k)(hb:∀c∈b,c.key≠k):jr k (a++(p++b)) (a++(q++b)):=by
 intro c
 have:=h c
 simp only[List.mem_append]
 constructor
 . rintro(h1|h1|h1)
   . exact⟨.inl h1,ha c h1⟩
   . obtain⟨h2,h3⟩:=this.1 h1;exact⟨.inr (.inl h2),h3⟩
   . exact⟨.inr (.inr h1),hb c h1⟩
 . rintro⟨h1|h1|h1,h2⟩
   . exact .inl h1
   . exact .inr (.inl (this.2 ⟨h1,h2⟩))
   . exact .inr (.inr h1)
theorem wY.mid{Q Q1:ah}{r:Int}{u:Int->Prop}{p q a b:List Int}(h:wY Q Q1 r u p q)(hn:(a++(p++b)).Nodup):
 wY Q Q1 r u (a++(p++b)) (a++(q++b))/\(∀m,(m∈a\/m∈b)->m≠1->Q1 m=Q m):=by
 obtain⟨n1,n2,n3⟩:=List.nodup_append.1 hn
 obtain⟨n4,n5,n6⟩:=List.nodup_append.1 n2
 have gS:∀m,(m∈a\/m∈b)->m∉p:=fun m hm hp=>by
  rcases hm with h5|h5
  . exact n3 m h5 m (by simp[hp]) rfl
  . exact n6 m hp m h5 rfl
 refine⟨⟨h.fst.iff fun m=> ?_,uP hn h.nodup fun m hm=> .inl (h.old m hm),fun m hm=> ?_,fun m h1 h2=>h.rest m h1 fun h3=>h2 (by simp[h3])⟩,fun m hm h1=>h.rest m h1 (gS m hm)⟩
 . simp only[List.mem_append]
   constructor
   . rintro⟨h1,h2⟩
     refine⟨h1,fun h3=> ?_⟩
     rcases h3 with h3|h3|h3
     . exact .inl h3
     . exact .inr (.inl (h2 h3))
     . exact .inr (.inr h3)
   . rintro⟨h1,h2⟩
     refine⟨h1,fun h3=> ?_⟩
     rcases h2 (.inr (.inl h3))with h4|h4|h4
     . exact absurd h3 (gS m (.inl h4))
     . exact h4
     . exact absurd h3 (gS m (.inr h4))
 . simp only[List.mem_append]at hm⊢
   rcases hm with h1|h1|h1
   . exact .inl h1
   . exact .inr (.inl (h.old m h1))
   . exact .inr (.inr h1)
theorem DB{n:Nd}(hf:kN n)(hl:n.leaf=false){keys:List ByteArray}{kids:List Int}(hs:keys.Sublist n.keys)(ht:kids.Sublist n.kids)(h1:1<=kids.length)(h2:keys.length+1=kids.length):kN {n with keys:=keys,kids:=kids}:=by
 obtain⟨g1,g2,g3,g4,g5,g6,g7⟩:=(aX hl).1 hf.nd.may
 have hlen:=su hl
 have hb:=hf.fits.2
 have hfl:(kids.flatMap put).length<=(n.kids.flatMap put).length:=sw (f:=fun x:Int=>put x) ht
 have Vt:(keys.flatMap aI).length<=(n.keys.flatMap aI).length:=sw hs
 have hp:=eC (n.kids.length:Int)
 have hle:=ht.length_le
 refine⟨⟨(aX (n:={n with keys:=keys,kids:=kids}) hl).2 ⟨g1,fun c hc=>g2 c (hs.subset hc),g3.sublist hs,fun x hx=>g4 x (ht.subset hx),h1,(by show kids.length<=32;omega),h2⟩,?_⟩,fun c hc=>hf.fl c hc⟩
 rw[su (n:={n with keys:=keys,kids:=kids}) hl]
 show 1+(put (kids.length:Int)).length+(kids.flatMap put).length+(keys.flatMap aI).length<=256
 rw[dI (by omega) (by omega)];omega
end Go.Pl
end
section
namespace Go.Pl
open Go Go.Sx
theorem yX{Q:ah}{r:Int}{u:Int->Prop}{d f:Nat}{no:Int}{lo hi:ByteArray}{n:Nd}{ps:List aG}{k:ByteArray}{i:Nat}{ct:Int}{p:aG}(hF:jG Q r u)(hu:∀m∈(wg no ps).1,u m)(hn:(wg no ps).1.Nodup)
 (hp:bC (Q no) n)(hl:n.leaf=false)(hw:fC Q d n lo hi ps)(hki:bW k lo hi=true)(J0:i=bM n.keys k)(hk:n.kids[i]? =some ct)(CT:ps[i]? =some p)
 (hg:vO Q r u d ct (b7 n.keys lo i) (bE n.keys hi i) p k (bB k f Q ct)):vO Q r u (d+1) no lo hi (wg no ps) k (bB k (f+1) Q no):=by
 have hno:=hF.may (hu no (by simp[wg]))
 have l8:no≠1:=by unfold ay at hno;omega
 have hrd:=dZ hno hp
 have hmn:=hp.1.nd.may
 obtain⟨hc0,hmk,qX,xD,qW,RO,nT⟩:=(aX hl).1 hmn
 have hgd:n.kids.getD (bM n.keys k) 0=ct:=by rw[<-J0,List.getD_eq_getElem?_getD,hk];rfl
 have hil:i<ps.length:=(List.getElem?_eq_some_iff.1 CT).1
 have hik:i<n.kids.length:=(List.getElem?_eq_some_iff.1 hk).1
 have e1:(wg no ps).1=(no::(ps.take i).flatMap Prod.fst)++(p.1++(ps.drop (i+1)).flatMap Prod.fst):=by show no::ps.flatMap Prod.fst=_;rw[fR CT];rfl
 have e2:(wg no ps).2=(ps.take i).flatMap Prod.snd++(p.2++(ps.drop (i+1)).flatMap Prod.snd):=fR CT
 have hna:((no::(ps.take i).flatMap Prod.fst)++(p.1++(ps.drop (i+1)).flatMap Prod.fst)).Nodup:=by rw[<-e1];exact hn
 have hka:∀c∈(ps.take i).flatMap Prod.snd,c.key≠k:=fun c hc=>by
  obtain⟨q,hq,wR⟩:=List.mem_flatMap.1 hc
  obtain⟨j,hj,xq⟩:=fM hq
  exact hw.other hmn hl hki (by omega) xq c wR
 have Ea:∀c∈(ps.drop (i+1)).flatMap Prod.snd,c.key≠k:=fun c hc=>by
  obtain⟨q,hq,wR⟩:=List.mem_flatMap.1 hc
  obtain⟨j,hj,xq⟩:=fN hq
  exact hw.other hmn hl hki (by omega) xq c wR
 have gS:∀(j:Nat) (q:aG),j≠i->ps[j]? =some q->∀m∈q.1,(m∈no::(ps.take i).flatMap Prod.fst\/m∈(ps.drop (i+1)).flatMap Prod.fst)/\m≠1:=fun j q hj hq m hm=>by
  refine⟨?_,by have:=hF.may (hu m (List.mem_cons_of_mem _ (List.mem_flatMap.2 ⟨q,List.mem_of_getElem? hq,hm⟩)));unfold ay at this;omega⟩
  rcases Nat.lt_or_gt_of_ne hj with h|h
  . exact .inl (List.mem_cons_of_mem _ (List.mem_flatMap.2 ⟨q,List.mem_of_getElem? (i:=j) (by rw[List.getElem?_take_of_lt h];exact hq),hm⟩))
  . exact .inr (List.mem_flatMap.2 ⟨q,List.mem_of_getElem? (i:=j-(i+1)) (by rw[List.getElem?_drop,show i+1+(j-(i+1))=j by omega];exact hq),hm⟩)
 have hin:∀c∈p.2,c∈(wg no ps).2:=fun c hc=>by rw[e2];simp[hc]
 rcases hg with⟨hres,hnone⟩|⟨Q1,q,hres,⟨c0,Hr,Hs⟩,hT,GD,hP,hS,_⟩|⟨Q1,hres,⟨c0,Hr,Hs⟩,hP,hS⟩
 .
  rw[gr hrd hl (by rw[hgd];exact hres) rfl]
  refine .inl ⟨rfl,fun c hc=> ?_⟩
  rw[e2]at hc
  rcases List.mem_append.1 hc with h|h
  . exact hka c h
  . rcases List.mem_append.1 h with h|h
    . exact hnone c h
    . exact Ea c h
 .
  rw[gr hrd hl (by rw[hgd];exact hres) rfl]
  obtain⟨jb,hfr⟩:=hS.mid hna
  have vt:Q1 no=Q no:=hfr no (.inl (by simp)) l8
  have hW:=fo.set (hw.but fun j q hj hq m hm=>hfr m (gS j q hj hq m hm).1 (gS j q hj hq m hm).2) hk hT GD
  refine .inr (.inl ⟨Q1,wg no (ps.set i q),rfl,⟨c0,hin c0 Hr,Hs⟩,aW.ways (by rw[vt];exact hp) hno hl hW,?_,?_,?_,fun n1 n2 g1 g2=>by rw[vt]at g2;rw[c_ g1 g2];exact Nat.le_refl _⟩)
  . exact hW.full (by omega)
  . rw[e2];show jr k _ ((ps.set i q).flatMap Prod.snd);rw[iN hil];exact hP.mid hka Ea
  . rw[e1];show wY Q Q1 r u _ (no::(ps.set i q).flatMap Prod.fst);rw[iN hil];exact jb
 .
  rw[lO hrd hl (by rw[hgd];exact hres) (by simp),<-J0]
  obtain⟨jb,hfr⟩:=hS.mid hna
  have vt:Q1 no=Q no:=hfr no (.inl (by simp)) l8
  have GF:=hP.mid hka Ea
  rw[<-e2,List.nil_append]at GF
  rw[<-e1,List.nil_append]at jb
  have Mr:no∈(wg no ps).1:=by simp[wg]
  by_cases qq:n.kids.length-1=0
  . have Vu:u no/\(no∈(wg no ps).1->no∈no::(ps.take i).flatMap Prod.fst++(ps.drop (i+1)).flatMap Prod.fst):=⟨hu no Mr,fun _=>by simp⟩
    obtain⟨Q2,hfree,Eb,GG⟩:=jb.fst.free Vu
    have Ny:ps.take i=[]/\ps.drop (i+1)=[]:=by
     have:=hw.1
     exact⟨List.length_eq_zero_iff.1 (by rw[List.length_take];omega),List.length_eq_zero_iff.1 (by rw[List.length_drop];omega)⟩
    rw[Ny.1,Ny.2]at GF Eb
    refine .inr (.inr ⟨Q2,by rw[kC qq,hfree];rfl,⟨c0,hin c0 Hr,Hs⟩,GF,⟨Eb.iff fun m=> ?_,by simp,fun m hm=>(by cases hm),fun m h1 h2=>(GG m h1).trans (jb.rest m h1 h2)⟩⟩)
    constructor
    . rintro⟨⟨h1,h2⟩,h3⟩
      exact⟨h1,fun h4=>absurd (List.mem_singleton.1 (h2 h4)) h3⟩
    . rintro⟨h1,h2⟩
      refine⟨⟨h1,fun h4=>absurd (h2 h4) (by simp)⟩,fun h4=> ?_⟩
      subst h4;exact absurd (h2 Mr) (by simp)
  . have hW:=fo.cut (hw.but fun j q hj hq m hm=>hfr m (gS j q hj hq m hm).1 (gS j q hj hq m hm).2) nT (by omega) hik (fun k hk=>(jq (hmk k hk)).2) hw
    have Wy:(dL n i).keys=bH n.keys (i-1):=by unfold dL;dsimp only;rw[if_pos (by omega)]
    have hfit:kN (dL n i):=by
     have e:dL n i={n with keys:=bH n.keys (i-1),kids:=bH n.kids i}:=by unfold dL;rw[if_pos (by omega)]
     rw[e]
     exact DB hp.1 hl (uS _ _) (uS _ _) (by rw[dG hik];omega) (by rw[dG hik,dG (by omega)];omega)
    have f1:(bH ps i).flatMap Prod.fst=(ps.take i).flatMap Prod.fst++(ps.drop (i+1)).flatMap Prod.fst:=yu
    have f2:(bH ps i).flatMap Prod.snd=(ps.take i).flatMap Prod.snd++(ps.drop (i+1)).flatMap Prod.snd:=yu
    rw[<-f2]at GF
    have GV:wY Q Q1 r u (wg no ps).1 (wg no (bH ps i)).1:=by show wY Q Q1 r u _ (no::(bH ps i).flatMap Prod.fst);rw[f1];exact jb
    have hnot:∀p∈bH ps i,∀m∈p.1,m≠no:=fun p hp m hm e=>(List.nodup_cons.1 GV.nodup).1 (by rw[<-e];exact List.mem_flatMap.2 ⟨p,hp,hm⟩)
    refine .inr (.inl ⟨ef Q1 no (bU (dL n i)).1,wg no (bH ps i),?_,⟨c0,hin c0 Hr,Hs⟩,aW.ways (eB hfit) hno hl (hW.frame fun p hp m hm=>bS (hnot p hp m hm)),?_,GF,⟨(GV.fst.other (bS (Ne.symm l8))),GV.nodup,GV.old,fun m h1 h2=>by rw[bS fun e=>h2 (by rw[e];exact Mr)];exact GV.rest m h1 h2⟩,fun n1 n2 g1 g2=> ?_⟩)
    . rw[kD qq,show ja Q1 no (dL n i)= .ok (ef Q1 no (bU (dL n i)).1) by unfold ja;rw[if_pos (fS.2 hfit.fits)]];rfl
    . exact hW.full (by show 0<(bH n.kids i).length;rw[dG hik];omega)
    . rw[dK]at g2
      rw[c_ g1 hp,c_ (m:=dL n i) g2 ⟨hfit,rfl⟩];show(bH n.kids i).length<=_;rw[dG hik];omega
theorem aW.remove{k:ByteArray}:∀{d:Nat} {no:Int} {lo hi:ByteArray} {g:aG} {Q:ah} {r:Int} {u:Int->Prop},aW Q d no lo hi g->jG Q r u->(∀m∈g.1,u m)->g.1.Nodup->bW k lo hi=true->
 ∀{f:Nat},d<f->vO Q r u d no lo hi g k (bB k f Q no):=by
 intro d
 induction d with
 |zero=>
  rintro no lo hi g Q r u ⟨n,h1,h2,h3,rfl,h5⟩ hF hu hn mM f hf
  obtain⟨f,rfl⟩:∃f',f=f'+1:=⟨f-1,by omega⟩
  exact yW hF (hu no (by simp)) h1 h3 h5
 |succ d ih=>
  rintro no lo hi g Q r u ⟨n,ps,h1,h2,h3,h4,h5,rfl⟩ hF hu hn mM f hf
  obtain⟨f,rfl⟩:∃f',f=f'+1:=⟨f-1,by omega⟩
  obtain⟨_,_,qX,_,_,_,nT⟩:=(aX h3).1 h1.1.nd.may
  have hil:=gu n.keys k
  obtain⟨ct,hk⟩:∃ct,n.kids[bM n.keys k]? =some ct:=⟨_,List.getElem?_eq_getElem (by omega)⟩
  obtain⟨p,hp⟩:∃p,ps[bM n.keys k]? =some p:=⟨_,List.getElem?_eq_getElem (by omega)⟩
  have hsub:p.1.Sublist (ps.flatMap Prod.fst):=by
   rw[fR hp]
   exact(List.sublist_append_left _ _).trans (List.sublist_append_right _ _)
  refine yX hF hu hn h1 h3 ⟨h4,h5⟩ mM rfl hk hp (ih (h5 _ ct p hk hp).1 hF (fun m hm=>hu m (List.mem_cons_of_mem _ (hsub.subset hm))) ((List.nodup_cons.1 hn).2.sublist hsub) (r3 qX mM) (by omega))
end Go.Pl
end
section
namespace Go.Pl
open Go Go.Sx
theorem aU.shrink{Q0:ah}:∀{d:Nat} {no:Int} {g:aG} {Q:ah} {f:Nat},d<f->aW Q d no kP kP g->g.1.Nodup->jG Q no (fun m=>m∈g.1)->g.2≠[]->Cg Q d no->∃Q' g',dj f Q no= .ok Q'/\aU Q' g'/\g'.2=g.2/\g'.1.length<=g.1.length:=by
 intro d
 induction d with
 |zero=>
  intro no g Q f hf hT hn hF hne gW
  obtain⟨f,rfl⟩:∃f',f=f'+1:=⟨f-1,by omega⟩
  obtain⟨n,h1,h2,h3,h4,h5⟩:=id hT
  exact⟨Q,g,ig (dZ h2 h1) (.inl h3),.inr ⟨0,no,hT,hn,hF,hne,gW⟩,rfl,Nat.le_refl _⟩
 |succ d ih=>
  intro no g Q f hf hT hn hF hne gW
  obtain⟨f,rfl⟩:∃f',f=f'+1:=⟨f-1,by omega⟩
  obtain⟨n,ps,h1,h2,h3,h4,h5,h6⟩:=id hT
  by_cases hk:n.leaf=true\/1<n.kids.length
  . exact⟨Q,g,ig (dZ h2 h1) hk,.inr ⟨d+1,no,hT,hn,hF,hne,gW⟩,rfl,Nat.le_refl _⟩
  . obtain⟨_,_,_,_,qW,_,nT⟩:=(aX h3).1 h1.1.nd.may
    have hk2:n.kids.length=1:=by
     have:¬1<n.kids.length:=fun h=>hk (.inr h)
     omega
    obtain⟨ct,wV⟩:=List.length_eq_one_iff.1 hk2
    obtain⟨p,hp⟩:=List.length_eq_one_iff.1 (h4.trans hk2)
    have hks:n.keys=[]:=List.length_eq_zero_iff.1 (by omega)
    obtain⟨Qn,Qm⟩:=h5 0 ct p (by rw[wV];rfl) (by rw[hp];rfl)
    have e1:b7 n.keys kP 0=kP:=rfl
    have e2:bE n.keys kP 0=kP:=by rw[hks];rfl
    rw[e1,e2]at Qn
    have hg:g=(no::p.1,p.2):=by rw[h6,hp];simp
    have l8:no≠1:=by unfold ay at h2;omega
    obtain⟨Q1,hfree,GC,Qf⟩:=hF.free (no:=no) (by rw[hg];simp)
    have hmk:=Qn.may
    obtain⟨Eb,GG⟩:=GC.set (no:=ct) (by unfold ay at hmk;omega) (by unfold ay at hmk;omega)
    rw[hg]at hn GC Eb
    have Mr:=List.nodup_cons.1 hn
    have hfr:∀m∈p.1,cq Q1 ct m=Q m:=fun m hm=>by
     have pE:m≠1:=by
      have:=hF.may (m:=m) (by rw[hg];exact List.mem_cons_of_mem _ hm);unfold ay at this;omega
     rw[GG m pE,Qf m pE]
    have hgd:n.kids.getD 0 0=ct:=by rw[wV];rfl
    obtain⟨Q',g',h7,h8,h9,h10⟩:=ih (f:=f) (by omega) (Qn.frame hfr) Mr.2 (Eb.iff fun m=>⟨fun h=>(List.mem_cons.1 h.1).resolve_left h.2,fun h=>⟨List.mem_cons_of_mem _ h,fun e=>Mr.1 (e▸h)⟩⟩) Qm ⟨by have:=gW.1;omega,fun e=>by have:=gW.1;omega⟩
    refine⟨Q',g',?_,h8,by rw[h9,hg],by rw[hg];simp only[List.length_cons];omega⟩
    rw[kJ (dZ h2 h1) hk,hfree,hgd];exact h7
theorem aU.del{Q:ah}{g:aG}(h:aU Q g)(k:ByteArray):
 (cN Q k= .ok (false,Q)/\∀c∈g.2,c.key≠k)\/∃Q' g',cN Q k= .ok (true,Q')/\aU Q' g'/\jr k g.2 g'.2/\(∃c∈g.2,c.key=k)/\g'.1.length<=g.1.length:=by
 rcases h with⟨hF,rfl⟩|⟨d,no,hT,hn,hF,hne,gW⟩
 . exact .inl ⟨qP (hF.b6 (.inl rfl)) rfl,fun c hc=>by cases hc⟩
 . have hno:=hT.may
   have h0:no≠0:=by unfold ay at hno;omega
   have j3:=hF.b6 (.inr hno)
   have hd:=gW.1
   rcases hT.remove hF (fun m hm=>hm) hn (pR (k:=k)) (f:=32) (by omega)with⟨hres,hnone⟩|⟨Q1,g1,hres,hex,Vv,RY,hC,hL,hkk⟩|⟨Q1,hres,hex,hC,hL⟩
   . exact .inl ⟨sX j3 h0 hres rfl rfl,hnone⟩
   . have GC:jG Q1 no (fun m=>m∈g1.1):=hL.fst.iff fun m=>⟨fun h=>h.2 h.1,fun h=>⟨hL.old m h,fun _=>h⟩⟩
     obtain⟨Q2,g2,h1,h2,h3,h4⟩:=aU.shrink (Q0:=Q) (f:=32) (by omega) Vv hL.nodup GC RY ⟨hd,fun e n' hn'=>by
      subst e
      obtain⟨n,ps,hp,_⟩:=hT
      exact Nat.le_trans (hkk n n' hp hn') (gW.2 rfl n hp)⟩
     have h5:=me hL.nodup hL.old
     exact .inr ⟨Q2,g2,(nH j3 h0 hres rfl rfl).trans (aS h1),h2,by rw[h3];exact hC,hex,by omega⟩
   . have GC:jG Q1 no (fun _=>False):=hL.fst.iff fun m=>⟨fun h=>(by have:=h.2 h.1;cases this),False.elim⟩
     exact .inr ⟨cq Q1 0,([],[]),qQ j3 h0 hres rfl,.inl ⟨(GC.set (by omega) (by omega)).1,rfl⟩,hC,hex,by simp⟩
end Go.Pl
end
section
namespace Go.Pl
open Go Go.Sx
def vP(Q:ah)(r:Int)(u:Int->Prop)(d:Nat)(no:Int)(lo hi:ByteArray)(g:aG)(x:Cell)(res:TE (Part×ah)):Prop:=
 ∃Q' g',res= .ok (lp,Q')/\aW Q' d no lo hi g'/\jC x g.2 g'.2/\g'.1=g.1/\jG Q' r u/\(∀m,m≠1->m∉g.1->Q' m=Q m)/\∀n n',bC (Q no) n->bC (Q' no) n'->n'.kids.length<=n.kids.length
theorem yY{Q:ah}{r:Int}{u:Int->Prop}{no:Int}{lo hi:ByteArray}{n:Nd}{x:Cell}(hF:jG Q r u)(hu:u no)(hp:bC (Q no) n)(hl:n.leaf=true)(hin:∀c∈n.cells,bW c.key lo hi=true)
 (hx:aC x=true)(gA:x.val.f<2^64/\x.new.f<2^64)(mM:bW x.key lo hi=true){c:Cell}(hc:c∈n.cells)(ua:c.key=x.key)(hlen:(ax x).length<=(ax c).length):
 vP Q r u 0 no lo hi ([no],n.cells) x (kU Q no {n with cells:=b5 n.cells x}):=by
 have hno:=hF.may hu
 have l8:no≠1:=by unfold ay at hno;omega
 obtain⟨qW,hk2,GA,hr⟩:=(cj hl).1 hp.1.nd.may
 obtain⟨kg,hput⟩:=lG hr x
 have hmay:∀c∈b5 n.cells x,aC c=true/\(c.val.f<2^64/\c.new.f<2^64)/\bW c.key lo hi=true:=fun c hc=>by
  rcases(hput c).1 hc with rfl|⟨h,_⟩
  . exact⟨hx,gA,mM⟩
  . exact⟨GA c h,hp.1.fl c h,hin c h⟩
 have hmn:dh {n with cells:=b5 n.cells x}:=(cj (n:={n with cells:=b5 n.cells x}) hl).2 ⟨qW,hk2,fun c hc=>(hmay c hc).1,kg⟩
 have he:(keysOf n.cells)[aL (keysOf n.cells) x.key]? =some x.key:=by
  by_cases he:(keysOf n.cells)[aL (keysOf n.cells) x.key]? =some x.key
  . exact he
  . have:=nK hr x.key
    rw[jh he]at this
    exact absurd ua (this c hc)
 obtain⟨z,hz,Vw⟩:=ei he
 have GN:=key_inj hr (List.mem_of_getElem? hz) hc (Vw.trans ua.symm)
 subst GN
 obtain⟨hlt,zu⟩:=List.getElem?_eq_some_iff.1 hz
 have hfl:((b5 n.cells x).flatMap ax).length<=(n.cells.flatMap ax).length/\(b5 n.cells x).length=n.cells.length:=by
  rw[ru he]
  refine⟨?_,List.length_set⟩
  rw[iN hlt,fR hz]
  simp only[List.length_append];omega
 have hf:Fits {n with cells:=b5 n.cells x}:=by
  refine⟨hmn,?_⟩
  have hold:=fV hl
  have Vi:=hp.1.fits.2
  rw[fV (n:={n with cells:=b5 n.cells x}) hl];dsimp only
  rw[hfl.2];have:=hfl.1;omega
 rw[oL hf]
 refine⟨_,([no],b5 n.cells x),rfl,⟨{n with cells:=b5 n.cells x},eB (n:={n with cells:=b5 n.cells x}) ⟨hf,fun c hc=>(hmay c hc).2.1⟩,hno,hl,rfl,fun c hc=>(hmay c hc).2.2⟩,hput,rfl,hF.other (bS (Ne.symm l8)),fun m h1 h2=>bS fun e=>h2 (by rw[e];simp),fun n1 n2 g1 g2=> ?_⟩
 rw[dK]at g2
 rw[c_ g1 hp,c_ (m:={n with cells:=b5 n.cells x}) g2 ⟨⟨hf,fun c hc=>(hmay c hc).2.1⟩,rfl⟩];exact Nat.le_refl _
theorem yZ{Q:ah}{r:Int}{u:Int->Prop}{d f:Nat}{no:Int}{lo hi:ByteArray}{n:Nd}{ps:List aG}{x:Cell}{i:Nat}{ct:Int}{p:aG}(hF:jG Q r u)(hu:∀m∈(wg no ps).1,u m)(hn:(wg no ps).1.Nodup)
 (hp:bC (Q no) n)(hl:n.leaf=false)(hw:fC Q d n lo hi ps)(mM:bW x.key lo hi=true)(J0:i=bM n.keys x.key)(hk:n.kids[i]? =some ct)(CT:ps[i]? =some p)
 (hg:vP Q r u d ct (b7 n.keys lo i) (bE n.keys hi i) p x (bF x f Q ct)):vP Q r u (d+1) no lo hi (wg no ps) x (bF x (f+1) Q no):=by
 have hno:=hF.may (hu no (by simp[wg]))
 have l8:no≠1:=by unfold ay at hno;omega
 have hrd:=dZ hno hp
 have hmn:=hp.1.nd.may
 have hgd:n.kids.getD (bM n.keys x.key) 0=ct:=by rw[<-J0,List.getD_eq_getElem?_getD,hk];rfl
 have hil:i<ps.length:=(List.getElem?_eq_some_iff.1 CT).1
 have e1:(wg no ps).1=(no::(ps.take i).flatMap Prod.fst)++(p.1++(ps.drop (i+1)).flatMap Prod.fst):=by show no::ps.flatMap Prod.fst=_;rw[fR CT];rfl
 have e2:(wg no ps).2=(ps.take i).flatMap Prod.snd++(p.2++(ps.drop (i+1)).flatMap Prod.snd):=fR CT
 have hna:((no::(ps.take i).flatMap Prod.fst)++(p.1++(ps.drop (i+1)).flatMap Prod.fst)).Nodup:=by rw[<-e1];exact hn
 obtain⟨n1,n2,n3⟩:=List.nodup_append.1 hna
 obtain⟨n4,n5,n6⟩:=List.nodup_append.1 n2
 have hka:∀c∈(ps.take i).flatMap Prod.snd,c.key≠x.key:=fun c hc=>by
  obtain⟨q,hq,wR⟩:=List.mem_flatMap.1 hc
  obtain⟨j,hj,xq⟩:=fM hq
  exact hw.other hmn hl mM (by omega) xq c wR
 have Ea:∀c∈(ps.drop (i+1)).flatMap Prod.snd,c.key≠x.key:=fun c hc=>by
  obtain⟨q,hq,wR⟩:=List.mem_flatMap.1 hc
  obtain⟨j,hj,xq⟩:=fN hq
  exact hw.other hmn hl mM (by omega) xq c wR
 have gS:∀(j:Nat) (q:aG),j≠i->ps[j]? =some q->∀m∈q.1,m∉p.1/\m≠1:=fun j q hj hq m hm=>by
  refine⟨fun hmp=> ?_,by have:=hF.may (hu m (List.mem_cons_of_mem _ (List.mem_flatMap.2 ⟨q,List.mem_of_getElem? hq,hm⟩)));unfold ay at this;omega⟩
  rcases Nat.lt_or_gt_of_ne hj with h|h
  . exact n3 m (List.mem_cons_of_mem _ (List.mem_flatMap.2 ⟨q,List.mem_of_getElem? (i:=j) (by rw[List.getElem?_take_of_lt h];exact hq),hm⟩)) m (List.mem_append_left _ hmp) rfl
  . exact n6 m hmp m (List.mem_flatMap.2 ⟨q,List.mem_of_getElem? (i:=j-(i+1)) (by rw[List.getElem?_drop,show i+1+(j-(i+1))=j by omega];exact hq),hm⟩) rfl
 obtain⟨Q1,q,hres,hT,hP,MR,GC,hfr,_⟩:=hg
 rw[gq hrd hl (by rw[hgd];exact hres) rfl]
 have vt:Q1 no=Q no:=hfr no l8 fun h=>n3 no (by simp) no (List.mem_append_left _ h) rfl
 have GD:q.2≠[]:=by
  intro e
  have:=(hP x).2 (.inl rfl);rw[e]at this;cases this
 have hW:=fo.set (hw.but fun j q hj hq m hm=>hfr m (gS j q hj hq m hm).2 (gS j q hj hq m hm).1) hk hT GD
 refine⟨Q1,wg no (ps.set i q),rfl,aW.ways (by rw[vt];exact hp) hno hl hW,?_,?_,GC,fun m h1 h2=>hfr m h1 fun h3=>h2 (by rw[e1];simp[h3]),fun n1 n2 g1 g2=>by rw[vt]at g2;rw[c_ g1 g2];exact Nat.le_refl _⟩
 . rw[e2];show jC x _ ((ps.set i q).flatMap Prod.snd);rw[iN hil];exact hP.mid hka Ea
 . rw[e1];show no::(ps.set i q).flatMap Prod.fst=_;rw[iN hil,MR];rfl
theorem aW.place{x:Cell}(hx:aC x=true)(gA:x.val.f<2^64/\x.new.f<2^64):∀{d:Nat} {no:Int} {lo hi:ByteArray} {g:aG} {Q:ah} {r:Int} {u:Int->Prop},aW Q d no lo hi g->jG Q r u->(∀m∈g.1,u m)->g.1.Nodup->bW x.key lo hi=true->
 (∃c∈g.2,c.key=x.key/\(ax x).length<=(ax c).length)->∀{f:Nat},d<f->vP Q r u d no lo hi g x (bF x f Q no):=by
 intro d
 induction d with
 |zero=>
  rintro no lo hi g Q r u ⟨n,h1,h2,h3,rfl,h5⟩ hF hu hn mM ⟨c,hc,ua,ki⟩ f hf
  obtain⟨f,rfl⟩:∃f',f=f'+1:=⟨f-1,by omega⟩
  rw[ie (dZ h2 h1) h3]
  exact yY hF (hu no (by simp)) h1 h3 h5 hx gA mM hc ua ki
 |succ d ih=>
  rintro no lo hi g Q r u ⟨n,ps,h1,h2,h3,h4,h5,rfl⟩ hF hu hn mM ⟨c,hc,ua,ki⟩ f hf
  obtain⟨f,rfl⟩:∃f',f=f'+1:=⟨f-1,by omega⟩
  obtain⟨_,_,qX,_,_,_,nT⟩:=(aX h3).1 h1.1.nd.may
  have hil:=gu n.keys x.key
  obtain⟨ct,hk⟩:∃ct,n.kids[bM n.keys x.key]? =some ct:=⟨_,List.getElem?_eq_getElem (by omega)⟩
  obtain⟨p,hp⟩:∃p,ps[bM n.keys x.key]? =some p:=⟨_,List.getElem?_eq_getElem (by omega)⟩
  have hsub:p.1.Sublist (ps.flatMap Prod.fst):=by
   rw[fR hp]
   exact(List.sublist_append_left _ _).trans (List.sublist_append_right _ _)
  have Qo:c∈p.2:=by
   obtain⟨q,hq,wR⟩:=List.mem_flatMap.1 hc
   obtain⟨j,hj⟩:=List.getElem?_of_mem hq
   by_cases e:j=bM n.keys x.key
   . subst e;rw[hp]at hj;injection hj with hj;subst hj;exact wR
   . exact absurd ua (fC.other ⟨h4,h5⟩ h1.1.nd.may h3 mM e hj c wR)
  refine yZ hF hu hn h1 h3 ⟨h4,h5⟩ mM rfl hk hp (ih (h5 _ ct p hk hp).1 hF (fun m hm=>hu m (List.mem_cons_of_mem _ (hsub.subset hm))) ((List.nodup_cons.1 hn).2.sublist hsub) (r3 qX mM) ⟨c,Qo,ua,ki⟩ (by omega))
theorem aU.place{Q:ah}{g:aG}(h:aU Q g){x:Cell}(hx:aC x=true)(gA:x.val.f<2^64/\x.new.f<2^64){c:Cell}(hc:c∈g.2)(ua:c.key=x.key)(hlen:(ax x).length<=(ax c).length):
 ∃Q' g',dg Q x= .ok Q'/\aU Q' g'/\jC x g.2 g'.2/\g'.1=g.1:=by
 rcases h with⟨hF,rfl⟩|⟨d,no,hT,hn,hF,hne,gW⟩
 . cases hc
 . have hno:=hT.may
   have h0:no≠0:=by unfold ay at hno;omega
   have j3:=hF.b6 (.inr hno)
   have hd:=gW.1
   obtain⟨Q',g',hres,Qh,hP,MR,Qk,_,hk⟩:=hT.place hx gA hF (fun m hm=>hm) hn pR ⟨c,hc,ua,hlen⟩ (f:=32) (by omega)
   refine⟨Q',g',nG j3 h0 hres rfl,.inr ⟨d,no,Qh,by rw[MR];exact hn,by rw[MR];exact Qk,?_,hd,fun e n' hn'=> ?_⟩,hP,MR⟩
   . intro e;have:=(hP x).2 (.inl rfl);rw[e]at this;cases this
   . subst e
     obtain⟨n,ps,hp,_⟩:=hT
     exact Nat.le_trans (hk n n' hp hn') (gW.2 rfl n hp)
end Go.Pl
end
section
namespace Go.Pl
open Go Go.Sx
def eV(Q Q':ah):Prop:=∀no,no<1\/32<=no->Q' no=Q no
theorem eV.refl(Q:ah):eV Q Q:=fun _ _=>rfl
theorem eV.trans{Q Q1 Q2:ah}(h:eV Q Q1)(h2:eV Q1 Q2):eV Q Q2:=fun no hn=>(h2 no hn).trans (h no hn)
theorem eV.ef{Q Q1:ah}(h:eV Q Q1){no:Int}(h1:1<=no)(h2:no<32)(b:List UInt8):eV Q (ef Q1 no b):=fun k hk=>by
 unfold Go.Pl.ef;rw[if_neg (by omega)];exact h k hk
theorem cE{α β:Type}{x:TE α}{g:α->TE β}{b:β}(h:x.bind g= .ok b):∃a,x= .ok a/\g a= .ok b:=by
 cases x with
 |error e=>cases h
 |ok a=>exact⟨a,rfl,h⟩
theorem eV.set{Q Q':ah}{no:Int}{n:Nd}(h1:1<=no)(h2:no<32)(h:ja Q no n= .ok Q'):eV Q Q':=by
 unfold ja at h
 split at h
 . cases h;exact(eV.refl Q).ef h1 h2 _
 . cases h
theorem eV.take{Q:ah}{x:Int×ah}(h:fA Q= .ok x):eV Q x.2/\ay x.1:=by
 unfold fA at h
 split at h
 . rename_i n hn
   have hm:=List.mem_of_find?_eq_some (show(List.range' 2 30).find? _=some n from hn)
   rw[List.mem_range']at hm
   obtain⟨i,hi,rfl⟩:=hm
   cases h
   unfold ay
   exact⟨((eV.refl Q).ef (by omega) (by omega) _).ef (by omega) (by omega) _,by omega⟩
 . cases h
theorem eV.free{Q Q':ah}{no:Int}(h:kO Q no= .ok Q'):eV Q Q':=by
 unfold kO at h
 split at h
 . cases h;exact(eV.refl Q).ef (by omega) (by omega) _
 . cases h
theorem eV.root{Q Q1:ah}(h:eV Q Q1)(no:Int):eV Q (cq Q1 no):=h.ef (by omega) (by omega) _
theorem eV.put{Q:ah}{no:Int}{n:Nd}{x:Part×ah}(hn:ay no)(h:kU Q no n= .ok x):eV Q x.2:=by
 unfold ay at hn
 unfold kU at h
 split at h
 . cases h;exact(eV.refl Q).ef (by omega) hn.2 _
 . split at h
   . cases h
   . obtain⟨y,h1,h2⟩:=cE h
     obtain⟨a,b⟩:=eV.take h1
     unfold ay at b
     cases h2
     exact(a.ef (by omega) hn.2 _).ef (by omega) b.2 _
theorem Cj{n:Nd}(h:kN n)(hl:n.leaf=false)(k:ByteArray):ay (n.kids.getD (bM n.keys k) 0):=by
 obtain⟨_,_,_,c1,_,_,l1⟩:=(aX hl).1 h.fits.1
 have:=gu n.keys k
 rw[List.getD_eq_getElem?_getD,List.getElem?_eq_getElem (by omega)]
 exact c1 _ (List.getElem_mem _)
theorem eV.insert{c:Cell}:∀{f:Nat} {Q:ah} {no:Int} {x:Part×ah},ay no->bF c f Q no= .ok x->eV Q x.2
 |0,_,_,_,_,h=>by cases h
 |f+1,Q,no,x,hn,h=>by
  obtain⟨n,h1,h2⟩:=cE (show(bN (aK Q) no).bind _= .ok x from h)
  split at h2
  . exact eV.put hn h2
  . rename_i hl
    obtain⟨y,h3,h4⟩:=cE h2
    have hy:=eV.insert (Cj (fU h1) (by simpa using hl) _) h3
    split at h4
    . cases h4;exact hy
    . exact hy.trans (eV.put hn h4)
theorem eV.dg{Q Q':ah}{c:Cell}(h:dg Q c= .ok Q'):eV Q Q':=by
 obtain⟨no,h1,h2⟩:=cE (show(b6 (aK Q)).bind _= .ok Q' from h)
 have hn:=f_ h1
 split at h2
 . obtain⟨x,h3,h4⟩:=cE h2
   obtain⟨a,b⟩:=eV.take h3
   unfold ay at b
   exact(a.root _).trans (eV.set (by omega) b.2 h4)
 . rename_i h0
   obtain⟨x,h3,h4⟩:=cE h2
   have hx:=eV.insert (hn.resolve_left h0) h3
   split at h4
   . cases h4;exact hx
   . obtain⟨y,h5,h6⟩:=cE h4
     obtain⟨z,h7,h8⟩:=cE h6
     obtain⟨a,b⟩:=eV.take h5
     unfold ay at b
     cases h8
     exact((hx.trans a).trans (eV.set (by omega) b.2 h7)).root _
theorem eV.rest{Q:ah}{no:Int}{n:Nd}{left:Nat}{x:Bool×ah}(hn:ay no)(h:iW Q no n left= .ok x):eV Q x.2:=by
 unfold ay at hn
 unfold iW at h
 split at h
 . obtain⟨y,h1,h2⟩:=cE h;cases h2;exact eV.free h1
 . obtain⟨y,h1,h2⟩:=cE h;cases h2;exact eV.set (by omega) hn.2 h1
theorem eV.remove{k:ByteArray}:∀{f:Nat} {Q:ah} {no:Int} {x:(Bool×Bool)×ah},ay no->bB k f Q no= .ok x->eV Q x.2
 |0,_,_,_,_,h=>by cases h
 |f+1,Q,no,x,hn,h=>by
  obtain⟨n,h1,h2⟩:=cE (show(bN (aK Q) no).bind _= .ok x from h)
  split at h2
  . split at h2
    . obtain⟨y,h3,h4⟩:=cE h2;cases h4;exact eV.rest hn h3
    . cases h2;exact eV.refl Q
  . rename_i hl
    obtain⟨y,h3,h4⟩:=cE h2
    have hy:=eV.remove (Cj (fU h1) (by simpa using hl) _) h3
    split at h4
    . cases h4;exact hy
    . obtain⟨z,h5,h6⟩:=cE h4;cases h6;exact hy.trans (eV.rest hn h5)
theorem eV.shrink:∀{f:Nat} {Q Q':ah} {no:Int},dj f Q no= .ok Q'->eV Q Q'
 |0,_,_,_,h=>by cases h
 |f+1,Q,Q',no,h=>by
  obtain⟨n,h1,h2⟩:=cE (show(bN (aK Q) no).bind _= .ok Q' from h)
  split at h2
  . cases h2;exact eV.refl Q
  . obtain⟨y,h3,h4⟩:=cE h2
    exact((eV.free h3).root _).trans (eV.shrink h4)
theorem eV.cN{Q:ah}{k:ByteArray}{x:Bool×ah}(h:cN Q k= .ok x):eV Q x.2:=by
 obtain⟨no,h1,h2⟩:=cE (show(b6 (aK Q)).bind _= .ok x from h)
 have hn:=f_ h1
 split at h2
 . cases h2;exact eV.refl Q
 . rename_i h0
   obtain⟨y,h3,h4⟩:=cE h2
   have hy:=eV.remove (hn.resolve_left h0) h3
   split at h4
   . cases h4;exact hy.root _
   . split at h4
     . obtain⟨z,h5,h6⟩:=cE h4;cases h6;exact hy.trans (eV.shrink h5)
     . cases h4;exact hy
structure lq(Qb Q:ah)(g:aG):Prop where
 right:aU Q g
 off:eV Qb Q
end Go.Pl
end
section
namespace Go.Pl
open Go Go.Sx
def iq(l:List Cell)(k:ByteArray):List Cell:=l.filter fun c=>decide (c.key≠k)
def cz(l:List Cell)(k:ByteArray):Option Cell:=l.find? fun c=>decide (c.key=k)
theorem lR{l:List Cell}(h:rising (keysOf l))(k:ByteArray):rising (keysOf (iq l k)):=h.sublist (List.filter_sublist.map _)
theorem fq(l:List Cell)(k:ByteArray):jr k l (iq l k):=fun c=>by unfold iq;rw[List.mem_filter];simp
theorem vQ{l l':List Cell}{x:Cell}(h:rising (keysOf l))(h':rising (keysOf l'))(hp:jC x l l'):l'=b5 l x:=by
 obtain⟨h1,h2⟩:=lG h x
 exact s3 h' h1 fun c=>(hp c).trans (h2 c).symm
theorem LF{l l':List Cell}{k:ByteArray}(h:rising (keysOf l))(h':rising (keysOf l'))(hp:jr k l l'):l'=iq l k:=
 s3 h' (lR h k) fun c=>(hp c).trans (fq l k c).symm
theorem uT{l:List Cell}{k:ByteArray}(h:∀c∈l,c.key≠k):iq l k=l:=by
 unfold iq;rw[List.filter_eq_self];intro c hc;simpa using h c hc
theorem Ck{l:List Cell}{k:ByteArray}{o:Option Cell}(h:rising (keysOf l))(hf:Found l k o):o=cz l k:=by
 cases o with
 |none=>
  refine(List.find?_eq_none.2 fun c hc=> ?_).symm
  simpa using hf c hc
 |some z=>
  obtain⟨h1,h2⟩:=hf
  cases hg:cz l k with
  |none=>have:=List.find?_eq_none.1 hg z h1;simp[h2]at this
  |some w=>
   have hw:=List.find?_some hg
   exact congrArg some (key_inj h h1 (List.mem_of_find?_eq_some hg) (h2.trans (of_decide_eq_true hw).symm))
theorem qg{l:List Cell}{k:ByteArray}:(cz l k).isSome=true↔∃c∈l,c.key=k:=by
 unfold cz;rw[List.find?_isSome]
 constructor
 . rintro⟨c,h1,h2⟩;exact⟨c,h1,of_decide_eq_true h2⟩
 . rintro⟨c,h1,h2⟩;exact⟨c,h1,decide_eq_true h2⟩
theorem jN{l:List Cell}{k:ByteArray}(h:∀c∈l,c.key≠k):cz l k=none:=by
 unfold cz;rw[List.find?_eq_none];intro c hc;simpa using h c hc
theorem DC{α:Type}[DecidableEq α]{a b:List α}(ha:a.Nodup)(hb:b.Nodup)(h:∀x,x∈a↔x∈b):a.length=b.length:=
 Nat.le_antisymm (me ha fun x hx=>(h x).1 hx) (me hb fun x hx=>(h x).2 hx)
theorem aU.nodup{Q:ah}{g:aG}(h:aU Q g):g.1.Nodup:=by
 rcases h with⟨_,rfl⟩|⟨_,_,_,h,_⟩
 . exact List.nodup_nil
 . exact h
theorem aU.may{Q:ah}{g:aG}(h:aU Q g):∀m∈g.1,ay m:=by
 obtain⟨r,hF,_⟩:=h.fst
 exact fun m hm=>hF.may hm
theorem aU.iZ{Q:ah}{g:aG}(h:aU Q g):g.1.length<=30:=rB h.nodup h.may
theorem aU.none{Q:ah}{g:aG}(h:aU Q g)(h0:g.2=[]):g=([],[]):=by
 rcases h with⟨_,h⟩|⟨_,_,_,_,_,h,_⟩
 . exact h
 . exact absurd h0 h
theorem aU.some{Q:ah}{g:aG}(h:aU Q g)(h0:g.1=[]):g.2=[]:=by
 rcases h with⟨_,rfl⟩|⟨_,_,h,_⟩
 . rfl
 . obtain⟨l,hl⟩:=h.head;rw[h0]at hl;cases hl
theorem aU.one{Q:ah}{g:aG}(h:aU Q g):bn (aK Q 1)=(0,Q 1):=by
 obtain⟨r,hF,_⟩:=h.fst
 have h1:aK Q 1=(0,Q 1):=by unfold aK;rw[if_pos (by decide)]
 rw[h1];unfold bn;rw[if_neg (by simp),if_neg (by dsimp only;rw[hF.len];simp)]
theorem gP{sT b:Nat}{v:Value}{e:Int}{H:Chunk}:¬cI sT b v (fun _ _=>False) e H:=by
 rintro⟨m,h⟩
 obtain⟨_,_,_,_,_,_,_,h⟩:=h.is
 exact h
def gi(sT b:Nat)(P:Value)(I:Chunk->Prop)(Qb:ah)(g:aG)(H:Chunk):Prop:=∃Qt,aV sT b P I Qb Qt H/\lq Qb Qt g
theorem AU:aU (fun _=>dO 256) ([],[]):=by
 refine .inl ⟨⟨dS 256,rfl,fun m=>⟨fun h=> ?_,False.elim⟩⟩,rfl⟩
 have hm:=lF h
 obtain⟨n,rfl,h1,h2⟩:=j9 hm
 have:∀k:Fin 32,hasB (dO 256) ((k.val:Nat):Int)=false:=by decide
 rw[this ⟨n,h2⟩]at h;cases h
end Go.Pl
end
section
namespace Go.Pl
open Go Go.Sx
def RZ(i:Nat):ByteArray:=⟨#[107,UInt8.ofNat (48+i/100%10),UInt8.ofNat (48+i/10%10),UInt8.ofNat (48+i%10),97,98,99,100,101,102,103,104,105,106,107,108]⟩
def Oj(n:Nat):ByteArray:=⟨⟨List.replicate n 0⟩⟩
def R1(n:Nat):Vl:=⟨2,0,Oj n⟩
end Go.Pl
end
section
namespace Go.Pl
open Go Go.Sx
def zD(c:Cell)(st:List Cell×Bool)(x:Cell):List Cell×Bool:=if st.2=false/\cC x.key c.key=false then(st.1++[c],true)else st
def jD(c:Cell)(st:List Cell×Bool)(x:Cell):List Cell×Bool:=if x.key≠c.key then((zD c st x).1++[x],(zD c st x).2)else zD c st x
def Bo(l:List Cell)(c:Cell)(i:Nat):List Cell×Bool:=(l.take i).foldl (jD c) ([],false)
def vR(l:List Cell)(c:Cell):List Cell:=if(Bo l c l.length).2=false then(Bo l c l.length).1++[c]else(Bo l c l.length).1
theorem nM{c:Cell}:∀{l:List Cell} {out:List Cell},(∀x∈l,cC c.key x.key=true)->l.foldl (jD c) (out,true)=(out++l,true)
 |[],out,_=>by simp
 |x::l,out,h=>by
  have h1:=h x (by simp)
  have e:jD c (out,true) x=(out++[x],true):=by
   have h2:x.key≠c.key:=fun e=>by rw[e,aF]at h1;cases h1
   simp[jD,zD,h2]
  rw[List.foldl_cons,e,nM fun y hy=>h y (by simp[hy])];simp
theorem yw{c:Cell}:∀{l:List Cell} {out:List Cell},rising (keysOf l)->
 (if(l.foldl (jD c) (out,false)).2=false then(l.foldl (jD c) (out,false)).1++[c]else(l.foldl (jD c) (out,false)).1)=out++(l.filter (fun x=>cC x.key c.key)++c::l.filter (fun x=>cC c.key x.key))
 |[],out,_=>by simp
 |x::l,out,h=>by
  have h':=List.pairwise_cons.1 h
  have hgt:∀y∈l,cC x.key y.key=true:=fun y hy=>h'.1 _ (List.mem_map.2 ⟨y,hy,rfl⟩)
  rw[List.foldl_cons,List.filter_cons,List.filter_cons]
  rcases eO x.key c.key with h1|h1|h1
  . have e:jD c (out,false) x=(out++[x],false):=by
     have h2:x.key≠c.key:=fun e=>by rw[e,aF]at h1;cases h1
     simp[jD,zD,h1,h2]
    rw[e,yw h'.2,if_pos h1,if_neg (by rw[cY h1];simp)]
    simp
  . have e:jD c (out,false) x=(out++[c],true):=by
     simp[jD,zD,h1,aF]
    have hl:∀y∈l,cC c.key y.key=true:=fun y hy=>by rw[<-h1];exact hgt y hy
    rw[e,nM hl,if_neg (by simp),if_neg (by rw[h1,aF];simp),if_neg (by rw[h1,aF];simp),List.filter_eq_nil_iff.2 (fun y hy=>by rw[cY (hl y hy)];simp),List.filter_eq_self.2 hl]
    simp
  . have e:jD c (out,false) x=(out++[c,x],true):=by
     have h2:x.key≠c.key:=fun e=>by rw[e,aF]at h1;cases h1
     simp[jD,zD,cY h1,h2]
    have hl:∀y∈l,cC c.key y.key=true:=fun y hy=>bD h1 (hgt y hy)
    rw[e,nM hl,if_neg (by simp),if_neg (by rw[cY h1];simp),if_pos h1,List.filter_eq_nil_iff.2 (fun y hy=>by rw[cY (hl y hy)];simp),List.filter_eq_self.2 hl]
    simp
theorem uU{l:List Cell}{c:Cell}(h:rising (keysOf l)):vR l c=b5 l c:=by
 have e:vR l c=l.filter (fun x=>cC x.key c.key)++c::l.filter (fun x=>cC c.key x.key):=by
  have:=yw (c:=c) (l:=l) (out:=[]) h
  unfold vR Bo
  rw[List.take_of_length_le (Nat.le_refl _),this];simp
 have hr:rising (keysOf (vR l c)):=by
  rw[e]
  unfold keysOf rising
  rw[List.map_append,List.pairwise_append,List.map_cons,List.pairwise_cons]
  refine⟨h.sublist (List.filter_sublist.map _),⟨fun k hk=> ?_,h.sublist (List.filter_sublist.map _)⟩,fun a ha b hb=> ?_⟩
  . obtain⟨y,hy,rfl⟩:=List.mem_map.1 hk
    exact(List.mem_filter.1 hy).2
  . obtain⟨x,hx,rfl⟩:=List.mem_map.1 ha
    have hx:=(List.mem_filter.1 hx).2
    rcases List.mem_cons.1 hb with rfl|hb
    . exact hx
    . obtain⟨y,hy,rfl⟩:=List.mem_map.1 hb
      exact bD hx (List.mem_filter.1 hy).2
 refine vQ h hr fun z=> ?_
 rw[e,List.mem_append,List.mem_cons,List.mem_filter,List.mem_filter]
 constructor
 . rintro(⟨h1,h2⟩|h1|⟨h1,h2⟩)
   . exact .inr ⟨h1,vM h2⟩
   . exact .inl h1
   . exact .inr ⟨h1,fun e=>by rw[e,aF]at h2;cases h2⟩
 . rintro(h1|⟨h1,h2⟩)
   . exact .inr (.inl h1)
   . rcases eO z.key c.key with h3|h3|h3
     . exact .inl ⟨h1,h3⟩
     . exact absurd h3 h2
     . exact .inr (.inr ⟨h1,h3⟩)
def Ju(i n:Nat):Bool:=decide (∃k,k<i/\(k*7+3)%n=(i*7+3)%n)
end Go.Pl
end
