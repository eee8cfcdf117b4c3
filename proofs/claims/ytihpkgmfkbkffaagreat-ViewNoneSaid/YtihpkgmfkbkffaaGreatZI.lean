/- Part 9 of what the proofs of these rest on: Pages, None, Open. -/
import Derived.Test.YtihpkgmfkbkffaaGreatZH
import Derived.Test.YtihpkgmfkbkffaaGreatZD
import Derived.Test.YtihpkgmfkbkffaaGreatZB
import Derived.Test.YtihpkgmfkbkffaaGreatZA
import Derived.Test.YtihpkgmfkbkffaaGreatShelf
import Derived.Sort.Grow
import Derived.Test.YtihpkgmfkbkffaaGreatZG
import Derived.Test.YtihpkgmfkbkffaaGreatZE
import Derived.Test.YtihpkgmfkbkffaaGreatZF
set_option linter.unusedVariables false
set_option linter.unusedSimpArgs false
set_option linter.unusedSectionVars false
section
namespace Go.Proofs.YtihpkgmfkbkffaaGreat.Sx
open Go Go.Sx Go.Pl
variable[au]
set_option maxHeartbeats 1000000 in
set_option maxRecDepth 100000 in
theorem Cw{b:Nat}{P:Value}{I:Chunk->Prop}{E:Int->Chunk->Prop}{Qb:ah}(hP:cW Tryz.prog 5 P I E (aK Qb))(hQ:cQ Qb){Qt:ah}{H:Chunk}{r:List Chunk}(hH:aV 110 b P I Qb Qt H){cs:List Value}{n:Nd}(h:gf r cs n)(hlc:n.cells.length<=1000)(hlk:n.keys.length<=1000000)(xw:n.kids.length<=1000000)(hf:∀c∈n.cells,c.val.f<2^64/\c.new.f<2^64){no:Int}(hno:ay no){left:Nat}:aN Tryz.prog 150 [.pointer (some ⟨b,0,none⟩),.int .i64 no,.agg ⟨cs⟩,.int .i64 (left:Nat)] (H::r) (fun v' hs'=>∃H' gone Q',hs'=H'::r/\v'= .bool gone/\iW Qt no n left= .ok (gone,Q')/\aV 110 b P I Qb Q' H') (dW (fun H=>∃Q',aV 110 b P I Qb Q' H) (cI 110 b P E) (fun e=>iW Qt no n left= .error e) r):=by
 refine aN.enter 18 Tryz.func150 rfl Tryz.ntmps150 rfl ?_
 have h4:=h.four
 have mN:=hno
 unfold ay at mN
 refine TT.seq (.region (.box rfl rfl rfl (fun eG=> ?_)))
 refine OT.U hT 1 rfl (.nil (.seq (.seq (.seq (.region (.U hT 2 rfl (.nil (.seq (.cond rfl (fun en=> ?_) (fun en=> ?_))))))))))
 .
  have en:left=0:=by simpa using en
  refine TT.seq (.region (.U hT 2 rfl ?_))
  refine OT.aY Tryz.call153 rfl rfl rfl rfl (aN.pull pl (Cv hP hQ hH (no:=no) (by omega))) (fun _ _ h=>by
   obtain⟨e,H',rfl,he,rfl,⟨h1,h2⟩|h2⟩:=h
   . exact PP.of ⟨e,H',rfl,he,rfl,.inl ⟨(by rw[kC en];exact bz h1),h2⟩⟩ sl
   . exact PP.of ⟨e,H',rfl,he,rfl,.inr h2⟩ sl) ?_
  rintro xd BB ⟨H2,Q2,rfl,rfl,D_,dU⟩
  refine OT.nil (.seq (.seq (.region (.U hT 1 rfl (.nil (.seq (.ret (.jm (rs:=[.tmp 8]) [_] (H2::r) rfl (.tmp rfl .nil) sl ?_))))))))
  try dsimp only[one]
  exact⟨H2,true,Q2,rfl,rfl,by rw[kC en];exact aS D_,dU⟩
 .
  have en:left≠0:=by simpa using en
  refine TT.skip (.seq (.seq (.region (.U hT 2 rfl (.load rfl rfl (Ld.af hT rfl hz h4) rfl ?_)))))
  refine OT.aY Tryz.call104 rfl rfl rfl rfl (aN.pull pl (pW hP hQ hH (h.mono fun _ _ h=> .there h) hlc hlk xw hf (jM hno))) (fun _ _ h=>by
   obtain⟨e,H',rfl,he,rfl,⟨h1,h2⟩|h2⟩:=h
   . exact PP.of ⟨e,H',rfl,he,rfl,.inl ⟨(by rw[kD en];exact bz h1),h2⟩⟩ sl
   . exact PP.of ⟨e,H',rfl,he,rfl,.inr h2⟩ sl) ?_
  rintro CJ BF ⟨H2,Q2,rfl,rfl,D_,dU⟩
  refine OT.nil (.seq (.seq (.region (.U hT 1 rfl (.nil (.seq (.ret (.jm (rs:=[.tmp 8]) [_] (H2::r) rfl (.tmp rfl .nil) sl ?_))))))))
  try dsimp only[one]
  exact⟨H2,false,Q2,rfl,rfl,by rw[kD en];exact aS D_,dU⟩
set_option maxHeartbeats 1000000 in
set_option maxRecDepth 100000 in
theorem Bb{b:Nat}{P:Value}{I:Chunk->Prop}{E:Int->Chunk->Prop}{Qb:ah}(hP:cW Tryz.prog 5 P I E (aK Qb))(hQ:cQ Qb){k:ByteArray}{Qt:ah}{H:Chunk}{r:List Chunk}{no:Int}(hH:aV 110 b P I Qb Qt H):aN Tryz.prog 107 [.pointer (some ⟨b,0,none⟩),.int .i64 no,.string k,.int .i64 32] (H::r) (fun v' hs'=>∃H' y Q',hs'=H'::r/\v'= .tuple ⟨[.bool y.1,.bool y.2]⟩/\bB k 0 Qt no= .ok (y,Q')/\aV 110 b P I Qb Q' H') (dW (fun H=>∃Q',aV 110 b P I Qb Q' H) (cI 110 b P E) (fun e=>bB k 0 Qt no= .error e) r):=by
 refine aN.enter 96 Tryz.func107 rfl Tryz.ntmps107 rfl ?_
 refine TT.seq (.region (.U hT 2 rfl (.nil (.seq (.seq (.region (.U hT 2 rfl ?_)))))))
 refine OT.aY Tryz.call118 rfl rfl rfl rfl (gL) (fun _ _ h=>by
  obtain⟨rfl,rfl⟩:=h
  exact PP.of ⟨8,H,by rw[bJ (by decide)],by decide,rfl,.inl ⟨rfl,Qt,hH⟩⟩ sl) ?_
 rintro jY iE ⟨hb,_⟩
 exact hb.elim
set_option maxHeartbeats 4000000 in
set_option maxRecDepth 100000 in
theorem Bc{b:Nat}{P:Value}{I:Chunk->Prop}{E:Int->Chunk->Prop}{Qb:ah}(hP:cW Tryz.prog 5 P I E (aK Qb))(hQ:cQ Qb){k:ByteArray}{d f:Nat}(hd:d<32)(ih:∀{Q:ah} {H:Chunk} {r:List Chunk} {no:Int},ay no->aV 110 b P I Qb Q H->aN Tryz.prog 107 [.pointer (some ⟨b,0,none⟩),.int .i64 no,.string k,.int .i64 ((d+1:Nat):Int)] (H::r) (fun v' hs'=>∃H' y Q',hs'=H'::r/\v'= .tuple ⟨[.bool y.1,.bool y.2]⟩/\bB k f Q no= .ok (y,Q')/\aV 110 b P I Qb Q' H') (dW (fun H=>∃Q',aV 110 b P I Qb Q' H) (cI 110 b P E) (fun e=>bB k f Q no= .error e) r)){Qt:ah}{H:Chunk}{r:List Chunk}{no:Int}(hno:ay no)(hH:aV 110 b P I Qb Qt H):aN Tryz.prog 107 [.pointer (some ⟨b,0,none⟩),.int .i64 no,.string k,.int .i64 (d:Nat)] (H::r) (fun v' hs'=>∃H' y Q',hs'=H'::r/\v'= .tuple ⟨[.bool y.1,.bool y.2]⟩/\bB k (f+1) Qt no= .ok (y,Q')/\aV 110 b P I Qb Q' H') (dW (fun H=>∃Q',aV 110 b P I Qb Q' H) (cI 110 b P E) (fun e=>bB k (f+1) Qt no= .error e) r):=by
 refine aN.enter 96 Tryz.func107 rfl Tryz.ntmps107 rfl ?_
 refine TT.seq (.region (.U hT 2 rfl (.nil (.seq (.seq (.region (.U hT 2 rfl ?_)))))))
 refine OT.aY Tryz.call118 rfl rfl rfl rfl (bg) (fun _ _ h=>by
  obtain⟨hb,_⟩:=h
  exact absurd (of_decide_eq_false hb) (by omega)) ?_
 rintro jY iE ⟨hb,rfl,rfl⟩
 refine OT.nil (.seq (.seq (.region (.U hT 1 rfl (.bO Tryz.underlying24 rfl rfl rfl rfl (.U hT 1 rfl ?_))))))
 refine OT.aY Tryz.call95 rfl rfl rfl rfl (aN.pull pl (mm (cu hP hQ).D9 hH (iw hno))) (fun _ _ h=>by
  obtain⟨e,H',rfl,he,rfl,⟨h1,h2⟩|⟨_,e0,h2⟩⟩:=h
  . exact PP.of ⟨e,H',rfl,he,rfl,.inl ⟨yQ h1,_,h2⟩⟩ sl
  . exact PP.of ⟨e,H',rfl,he,rfl,.inr ⟨_,h2⟩⟩ sl) ?_
 rintro xb uq ⟨H1,K,cs,n,rfl,rfl,hN,fX,hrd⟩
 have hni:=(fU hrd).nd
 have hnc:=hni.cells
 have hnk:=hni.keys
 have hnd:=hni.kids
 obtain⟨vc,vk,vi,KA,KB,KC,rfl,rfl,iF,iG,nX⟩:=hN.is
 obtain⟨ac,cc,e1⟩:=(iF.row (hs:=[])).len
 obtain⟨ak,ck,e2⟩:=(iG.row (hs:=[])).len
 obtain⟨ai,ci,e3⟩:=(nX.row (hs:=[])).len
 subst e1 e2 e3
 refine OT.perm iu ?_
 have Jk:∀hs,gf (KA::KB::KC::hs) [.bool n.leaf,.slice ac n.cells.length cc,.slice ak n.keys.length ck,.slice ai n.kids.length ci] n:=fun hs=>⟨_,_,_,rfl,iF.row,iG.row.there,nX.row.there.there⟩
 refine OT.alloc Tryz.zeroValue159 rfl rfl (fun vC=> ?_)
 refine OT.ag hT rfl rfl rfl rfl pl rfl rfl rfl (.inl (Nat.le_refl _)) ?_
 refine OT.nil (.seq (.seq (.seq (.region (.U hT 1 rfl (.load rfl rfl (Ld.one hT rfl hz rfl) rfl ?_))))))
 refine OT.nil (.seq (.cond rfl (fun jx=> ?_) (fun jx=> ?_)))
 .
  have hlf:n.leaf=true:=jx
  refine TT.seq (.region (.load rfl rfl (Ld.af hT rfl hz rfl) rfl ?_))
  refine OT.U hT 1 rfl (.call Tryz.call96 rfl rfl rfl rfl (wu ((Jk _).mono fun _ _ h=>(.there (.there h))) (by omega) hni.kV) ?_)
  rintro vv qt ⟨rfl,rfl⟩
  refine OT.U hT 5 rfl (.nil (.seq (.seq (.seq (.region (.U hT 2 rfl (.nil (.seq (.cond rfl (fun uc=> ?_) (fun uc=> ?_))))))))))
  .
   have uc:¬(keysOf n.cells)[aL (keysOf n.cells) k]? =some k:=by simpa using uc
   refine TT.seq (.region (.U hT 2 rfl (.nil (.seq (.ret (.jm (rs:=[.tmp 8,.tmp 9]) [_,_] (H1::r) rfl (.tmp rfl (.tmp rfl .nil)) sl ?_))))))
   try dsimp only[one]
   exact⟨H1,(false,false),Qt,rfl,rfl,wI hrd hlf uc,fX⟩
  .
   have uc:(keysOf n.cells)[aL (keysOf n.cells) k]? =some k:=by simpa using uc
   obtain⟨z,nS,zu⟩:=ei uc
   have hzl:=(List.getElem?_eq_some_iff.1 nS).1
   refine TT.skip (.seq (.seq (.region (.U hT 1 rfl (.load rfl rfl (Ld.slc hT rfl hz rfl) rfl ?_)))))
   refine OT.U hT 3 rfl (.eI 38 rfl (v:= .int .i64 (((aL (keysOf n.cells) k)+1:Nat):Int)) (int_eq (by rw[wrap_i64 (by omega) (by omega)];omega)) (.call Tryz.call149 rfl rfl rfl rfl (aA.weaken sl (A6 iF (i:=(aL (keysOf n.cells) k)) (j:=(aL (keysOf n.cells) k)+1) (by omega) (by omega) (by omega))) ?_))
   rintro vu Bx ⟨H7,rfl,wT⟩
   obtain⟨a7,c7,rfl⟩:=(wT.row (hs:=[])).len
   have Q5:(n.cells.take (aL (keysOf n.cells) k)++n.cells.drop ((aL (keysOf n.cells) k)+1)).length=n.cells.length-1:=dG hzl
   refine OT.U hT 1 rfl (.store hT rfl rfl rfl rfl pl rfl (Nat.le_of_ble_eq_true rfl) rfl (.inl (Nat.le_refl _)) rfl ?_)
   refine OT.nil (.seq (.seq (.region (.U hT 2 rfl (.load rfl rfl (Ld.af hT rfl hz rfl) rfl ?_)))))
   refine OT.U hT 1 rfl (.load rfl rfl (Ld.slc hT rfl hz rfl) rfl ?_)
   refine OT.U hT 1 rfl (.eI 46 rfl (v:= .int .i64 ((n.cells.length-1:Nat):Int)) (int_eq (by rw[Q5])) ?_)
   refine OT.aY Tryz.call150 rfl rfl rfl rfl (aN.pull pl (Cw hP hQ fX (n:={n with cells:=bH n.cells (aL (keysOf n.cells) k)}) ⟨_,_,_,rfl,wT.row.there,iG.row.there.there,nX.row.there.there.there⟩ (by show(bH n.cells _).length<=1000;rw[dG hzl];omega) (by dsimp only;omega) (by dsimp only;omega) (fun c hc=>hni.fl c (Dt hc)) hno)) (fun _ _ h=>by
    obtain⟨e,H',rfl,he,rfl,⟨h1,h2⟩|h2⟩:=h
    . exact PP.of ⟨e,H',rfl,he,rfl,.inl ⟨(by rw[o5 hrd hlf uc];exact bz h1),h2⟩⟩ sl
    . exact PP.of ⟨e,H',rfl,he,rfl,.inr h2⟩ sl) ?_
   rintro Hx BI ⟨H2,gn,Q2,rfl,rfl,kg,dU⟩
   refine OT.U hT 2 rfl (.nil (.seq (.ret (.jm (rs:=[.tmp 8,.tmp 9]) [_,_] (H2::r) rfl (.tmp rfl (.tmp rfl .nil)) sl ?_))))
   try dsimp only[one]
   exact⟨H2,(true,gn),Q2,rfl,rfl,by rw[o5 hrd hlf uc];exact aS kg,dU⟩
 .
  have hlf:n.leaf=false:=jx
  obtain⟨kd,G_,zO,hkm⟩:=hni.ct hlf k
  have nT:=gu n.keys k
  have hkk:=(hni.ways hlf).1
  refine TT.skip (.seq (.seq (.region (.load rfl rfl (Ld.af hT rfl hz rfl) rfl ?_))))
  refine OT.U hT 1 rfl (.call Tryz.call97 rfl rfl rfl rfl (Am ((Jk _).mono fun _ _ h=>(.there (.there h))) hni hlf) ?_)
  rintro zJ xT ⟨rfl,rfl⟩
  refine OT.U hT 1 rfl (.nil (.seq (.seq (.region (.U hT 2 rfl (.load rfl rfl (Ld.slc hT rfl hz rfl) rfl ?_))))))
  refine OT.U hT 1 rfl (.index hT rfl rfl rfl rfl nX.row.there.there.there.there (by omega) (by rw[Int.toNat_natCast];exact G_) rfl (fun Uz L4=> ?_))
  refine OT.load rfl rfl (L4.bL hT rfl rfl) rfl (.U hT 3 rfl (.eI 60 rfl (v:= .int .i64 ((d+1:Nat):Int)) (int_eq (by rw[wrap_i64 (by omega) (by omega)];omega)) ?_))
  refine OT.aY Tryz.call107 rfl rfl rfl rfl (aN.pull pl (ih hkm fX)) (fun _ _ h=>by
   obtain⟨e,H',rfl,he,rfl,⟨h1,h2⟩|h2⟩:=h
   . exact PP.of ⟨e,H',rfl,he,rfl,.inl ⟨q9 hrd hlf (by rw[zO];exact h1),h2⟩⟩ sl
   . exact PP.of ⟨e,H',rfl,he,rfl,.inr h2⟩ sl) ?_
  rintro SA Po ⟨H2,y,Q2,rfl,rfl,qz,dU⟩
  refine OT.U hT 5 rfl (.nil (.seq (.seq (.seq (.region (.U hT 2 rfl (.nil (.seq (.cond rfl (fun oq=> ?_) (fun oq=> ?_))))))))))
  .
   have oq:y.2=false:=by simpa using oq
   refine TT.seq (.region (.U hT 3 rfl (.nil (.seq (.ret (.jm (rs:=[.tmp 8,.tmp 9]) [_,_] (H2::r) rfl (.tmp rfl (.tmp rfl .nil)) sl ?_))))))
   try dsimp only[one]
   exact⟨H2,(y.1,false),Q2,rfl,rfl,gr hrd hlf (by rw[zO];exact qz) oq,dU⟩
  .
   have oq:y.2≠false:=by simpa using oq
   refine TT.skip (.seq (.seq (.region (.U hT 1 rfl (.load rfl rfl (Ld.slc hT rfl hz rfl) rfl ?_)))))
   refine OT.U hT 3 rfl (.eI 71 rfl (v:= .int .i64 (((bM n.keys k)+1:Nat):Int)) (int_eq (by rw[wrap_i64 (by omega) (by omega)];omega)) (.call Tryz.call151 rfl rfl rfl rfl (aA.weaken sl (A8 nX (i:=(bM n.keys k)) (j:=(bM n.keys k)+1) (by omega) (by omega) (by omega))) ?_))
   rintro NG JE ⟨H7,rfl,wT⟩
   obtain⟨a7,c7,rfl⟩:=(wT.row (hs:=[])).len
   have Q5:(n.kids.take (bM n.keys k)++n.kids.drop ((bM n.keys k)+1)).length=n.kids.length-1:=dG (by omega)
   refine OT.U hT 1 rfl (.store hT rfl rfl rfl rfl pl rfl (Nat.le_of_ble_eq_true rfl) rfl (.inl (Nat.le_refl _)) rfl ?_)
   refine OT.nil (.seq (.cut (ι:=Value×Chunk) (fun j=>Own Go.Sx.ij 1 9 (j.1) (dL n (bM n.keys k)).keys (j.2)) (fun j=>[(0,.pointer (some ⟨b,0,none⟩)),(1,.int .i64 no),(10,.pointer (some ⟨vC,0,none⟩)),(14,.bool y.1)]) (fun j=>[(vC,blk [.bool n.leaf,.slice ac n.cells.length cc,(j.1),.slice a7 (n.kids.take (bM n.keys k)++n.kids.drop ((bM n.keys k)+1)).length c7] 159 (0,0))]::H2::KA::(j.2)::H7::r) ?_ ?_))
   .
    refine TT.seq (.region (.U hT 1 rfl (.load rfl rfl (Ld.slc hT rfl hz rfl) rfl ?_)))
    refine OT.U hT 2 rfl (.nil (.seq (.cond rfl (fun Ki=> ?_) (fun Ki=> ?_))))
    .
     have Ki:0<n.keys.length:=by have:=of_decide_eq_true Ki;omega
     refine TT.seq (.region (.U hT 4 rfl (.nil (.seq (.region (.U hT 1 rfl (.load rfl rfl (Ld.slc hT rfl hz rfl) rfl ?_)))))))
     refine OT.U hT 3 rfl (.eI 83 rfl (v:= .int .i64 (((bM n.keys k)-1:Nat):Int)) (int_eq (by rw[wrap_i64 (by omega) (by omega)];omega)) (.eI 85 rfl (v:= .int .i64 (((bM n.keys k)-1+1:Nat):Int)) (int_eq (by rw[wrap_i64 (n:=((bM n.keys k):Int)-1) (by omega) (by omega),wrap_i64 (by omega) (by omega)];omega)) (.call Tryz.call152 rfl rfl rfl rfl (aA.weaken sl (A7 iG (i:=(bM n.keys k)-1) (j:=(bM n.keys k)-1+1) (by omega) (by omega) (by omega))) ?_)))
     rintro rK k9 ⟨H8,rfl,TI⟩
     obtain⟨a8,c8,rfl⟩:=(TI.row (hs:=[])).len
     refine OT.U hT 1 rfl (.store hT rfl rfl rfl rfl pl rfl (Nat.le_of_ble_eq_true rfl) rfl (.inl (Nat.le_refl _)) rfl ?_)
     refine OT.nil (.cut (_,H8) ?_ (aa.cons rfl (aa.cons rfl (aa.cons rfl (aa.cons rfl (aa.nil _))))) sl)
     . dsimp only
       unfold dL;dsimp only;rw[if_pos Ki];exact TI
    .
     have Ki:¬0<n.keys.length:=by have:=of_decide_eq_false Ki;omega
     refine TT.skip (.cut (_,KB) ?_ (aa.cons rfl (aa.cons rfl (aa.cons rfl (aa.cons rfl (aa.nil _))))) sl)
     . dsimp only
       unfold dL;dsimp only;rw[if_neg Ki];exact iG
   .
    rintro⟨QZ,K2⟩ hI
    dsimp only at hI
    have HG:=hI
    show TT _ _ _ [(0,.pointer (some ⟨b,0,none⟩)),(1,.int .i64 no),(10,.pointer (some ⟨vC,0,none⟩)),(14,.bool y.1)] ([(vC,blk [.bool n.leaf,.slice ac n.cells.length cc,QZ,.slice a7 (n.kids.take (bM n.keys k)++n.kids.drop ((bM n.keys k)+1)).length c7] 159 (0,0))]::H2::KA::K2::H7::r)
    refine TT.seq (.region (.U hT 3 rfl (.load rfl rfl (Ld.af hT rfl hz rfl) rfl ?_)))
    refine OT.U hT 1 rfl (.load rfl rfl (Ld.slc hT rfl hz rfl) rfl ?_)
    refine OT.U hT 1 rfl (.eI 94 rfl (v:= .int .i64 ((n.kids.length-1:Nat):Int)) (int_eq (by rw[Q5])) ?_)
    refine OT.aY Tryz.call150 rfl rfl rfl rfl (aN.pull pl (Cw hP hQ dU (n:=dL n (bM n.keys k)) ⟨_,_,_,rfl,iF.row.there,HG.row.there.there,wT.row.there.there.there⟩ (by show n.cells.length<=1000;omega) (by have:=yR n (bM n.keys k);omega) (by show(bH n.kids _).length<=_;rw[dG (by omega)];omega) hni.fl hno)) (fun _ _ h=>by
     obtain⟨e,H',rfl,he,rfl,⟨h1,h2⟩|h2⟩:=h
     . exact PP.of ⟨e,H',rfl,he,rfl,.inl ⟨(by rw[lO hrd hlf (by rw[zO];exact qz) oq];exact bz h1),h2⟩⟩ sl
     . exact PP.of ⟨e,H',rfl,he,rfl,.inr h2⟩ sl) ?_
    rintro W_ UA ⟨H3,gn,Q3,rfl,rfl,Ej,mV⟩
    refine OT.U hT 2 rfl (.nil (.seq (.ret (.jm (rs:=[.tmp 8,.tmp 9]) [_,_] (H3::r) rfl (.tmp rfl (.tmp rfl .nil)) sl ?_))))
    try dsimp only[one]
    exact⟨H3,(y.1,gn),Q3,rfl,rfl,by rw[lO hrd hlf (by rw[zO];exact qz) oq];exact aS Ej,mV⟩
theorem DT{b:Nat}{P:Value}{I:Chunk->Prop}{E:Int->Chunk->Prop}{Qb:ah}(hP:cW Tryz.prog 5 P I E (aK Qb))(hQ:cQ Qb){k:ByteArray}:∀(f d:Nat),d+f=32->∀{Qt:ah} {H:Chunk} {r:List Chunk} {no:Int},ay no->aV 110 b P I Qb Qt H->aN Tryz.prog 107 [.pointer (some ⟨b,0,none⟩),.int .i64 no,.string k,.int .i64 ((d:Nat):Int)] (H::r) (fun v' hs'=>∃H' y Q',hs'=H'::r/\v'= .tuple ⟨[.bool y.1,.bool y.2]⟩/\bB k f Qt no= .ok (y,Q')/\aV 110 b P I Qb Q' H') (dW (fun H=>∃Q',aV 110 b P I Qb Q' H) (cI 110 b P E) (fun e=>bB k f Qt no= .error e) r):=by
 intro f
 induction f with
 |zero=>
  intro d hd Qt H r no _ hH
  obtain rfl:d=32:=by omega
  exact Bb hP hQ hH
 |succ f ih=>
  intro d hd Qt H r no hno hH
  exact Bc hP hQ (by omega) (fun h1 h2=>ih (d+1) (by omega) h1 h2) hno hH
set_option maxHeartbeats 2000000 in
set_option maxRecDepth 100000 in
theorem DU{b:Nat}{P:Value}{I:Chunk->Prop}{E:Int->Chunk->Prop}{Qb:ah}(hP:cW Tryz.prog 5 P I E (aK Qb))(hQ:cQ Qb){Qt:ah}{H:Chunk}{r:List Chunk}(hH:aV 110 b P I Qb Qt H){no:Int}(hno:ay no):aN Tryz.prog 108 [.pointer (some ⟨b,0,none⟩),.int .i64 no] (H::r) (fun v' hs'=>∃H' Q',hs'=H'::r/\v'= .tuple ⟨[]⟩/\dj 32 Qt no= .ok Q'/\aV 110 b P I Qb Q' H') (dW (fun H=>∃Q',aV 110 b P I Qb Q' H) (cI 110 b P E) (fun e=>dj 32 Qt no= .error e) r):=by
 refine aN.enter 31 Tryz.func108 rfl Tryz.ntmps108 rfl ?_
 refine TT.seq (.seq (.region (.U hT 1 rfl (.nil (.seq (.block (.loop (ι:=Nat×Int×ah×Chunk) (fun j=>(j.1)<=32/\ay (j.2.1)/\dj 32 Qt no=dj (32-(j.1)) (j.2.2.1) (j.2.1)/\aV 110 b P I Qb (j.2.2.1) (j.2.2.2)) (fun j=>32-(j.1)) (fun j=>[(0,.pointer (some ⟨b,0,none⟩)),(1,.int .i64 (j.2.1)),(5,.int .i64 ((j.1):Nat))]) (fun j=>(j.2.2.2)::r) (0,no,Qt,H) ?_ (aa.cons rfl (aa.cons rfl (aa.cons rfl (aa.nil _)))) sl ?_)))))))
 . dsimp only
   exact⟨by omega,hno,rfl,hH⟩
 rintro⟨i,TJ,Q1,H1⟩ hI
 dsimp only at hI
 obtain⟨hi,Mq,hsh,tJ⟩:=hI
 show TT _ _ _ [(0,.pointer (some ⟨b,0,none⟩)),(1,.int .i64 TJ),(5,.int .i64 (i:Nat))] (H1::r)
 refine TT.seq (.region (.U hT 1 rfl (.nil (.seq (.seq (.cond rfl (fun c6=> ?_) (fun c6=> ?_)))))))
 .
  have c6:=of_decide_eq_true c6
  obtain⟨f,hf⟩:∃f,32-i=f+1:=⟨31-i,by omega⟩
  rw[hf]at hsh
  have mN:=Mq
  unfold ay at mN
  refine TT.skip (.seq (.seq (.block (.seq (.region (.U hT 1 rfl (.bO Tryz.underlying24 rfl rfl rfl rfl (.U hT 1 rfl ?_))))))))
  refine OT.aY Tryz.call95 rfl rfl rfl rfl (mm (cu hP hQ).D9 tJ (iw Mq)) (fun _ _ h=>by
   obtain⟨e,H',rfl,he,rfl,⟨h1,h2⟩|⟨_,e0,h2⟩⟩:=h
   . exact PP.of ⟨e,H',rfl,he,rfl,.inl ⟨(by rw[hsh];exact yS h1),_,h2⟩⟩ sl
   . exact PP.of ⟨e,H',rfl,he,rfl,.inr ⟨_,h2⟩⟩ sl) ?_
  rintro nZ jF ⟨H2,K,cs,n,rfl,rfl,hN,dU,hrd⟩
  have hni:=(fU hrd).nd
  obtain⟨vc,vk,vi,KA,KB,KC,rfl,rfl,iF,iG,nX⟩:=hN.is
  obtain⟨ac,cc,e1⟩:=(iF.row (hs:=[])).len
  obtain⟨ak,ck,e2⟩:=(iG.row (hs:=[])).len
  obtain⟨ai,ci,e3⟩:=(nX.row (hs:=[])).len
  subst e1 e2 e3
  refine OT.perm iu (.alloc Tryz.zeroValue159 rfl rfl (fun nW=> ?_))
  refine OT.ag hT rfl rfl rfl rfl pl rfl rfl rfl (.inl (Nat.le_refl _)) ?_
  refine OT.nil (.seq (.seq (.seq (.region (.U hT 1 rfl (.load rfl rfl (Ld.one hT rfl hz rfl) rfl ?_))))))
  refine OT.U hT 1 rfl (.split 13 rfl (fun tE=> ?_) (fun tE=> ?_))
  .
   have hlf:n.leaf=true:=tE
   refine OT.U hT 5 rfl (.nil (.seq (.cond_true rfl (.ret (.jm (rs:=[]) [] (H2::r) rfl .nil sl ?_)))))
   try dsimp only[one]
   exact⟨H2,Q1,rfl,rfl,by rw[hsh];exact ig hrd (.inl hlf),dU⟩
  .
   have hlf:n.leaf=false:=tE
   have hkk:=(hni.ways hlf).1
   refine OT.U hT 1 rfl (.load rfl rfl (Ld.slc hT rfl hz rfl) rfl ?_)
   refine OT.U hT 3 rfl (.nil (.seq (.cond rfl (fun eK=> ?_) (fun eK=> ?_))))
   .
    have eK:1<n.kids.length:=by have:=of_decide_eq_true eK;omega
    refine TT.ret (.jm (rs:=[]) [] (H2::r) rfl .nil sl ?_)
    try dsimp only[one]
    exact⟨H2,Q1,rfl,rfl,by rw[hsh];exact ig hrd (.inr eK),dU⟩
   .
    have eK:¬1<n.kids.length:=by have:=of_decide_eq_false eK;omega
    have N4:¬(n.leaf=true\/1<n.kids.length):=fun h=>h.elim (fun h=>by rw[hlf]at h;cases h) eK
    obtain⟨kd,G_⟩:∃x,n.kids[0]? =some x:=⟨_,List.getElem?_eq_getElem (by omega)⟩
    have zO:n.kids.getD 0 0=kd:=by rw[List.getD_eq_getElem?_getD,G_];rfl
    have hkm:ay kd:=(hni.ways hlf).2 kd (List.mem_of_getElem? G_)
    refine TT.skip (.seq (.seq (.region (.U hT 2 rfl ?_))))
    refine OT.aY Tryz.call153 rfl rfl rfl rfl (aN.pull pl (Cv hP hQ dU (no:=TJ) (by omega))) (fun _ _ h=>by
     obtain⟨e,H',rfl,he,rfl,⟨h1,h2⟩|h2⟩:=h
     . exact PP.of ⟨e,H',rfl,he,rfl,.inl ⟨(by rw[hsh,kJ hrd N4];exact bz h1),h2⟩⟩ sl
     . exact PP.of ⟨e,H',rfl,he,rfl,.inr h2⟩ sl) ?_
    rintro KL EX ⟨H3,Q3,rfl,rfl,V1,mV⟩
    refine OT.nil (.seq (.seq (.region (.U hT 1 rfl (.load rfl rfl (Ld.slc hT rfl hz rfl) rfl ?_)))))
    refine OT.index hT rfl rfl rfl rfl nX.row.there.there.there.there (by omega) (by exact G_) rfl (fun JF r4=> ?_)
    refine OT.load rfl rfl (r4.bL hT rfl rfl) rfl (.U hT 1 rfl (.nil (.seq (.region (.U hT 2 rfl ?_)))))
    refine OT.aY Tryz.call103 rfl rfl rfl rfl (aN.pull pl (kH hP hQ mV (.inr hkm))) (fun _ _ h=>by
     obtain⟨e,H',rfl,he,rfl,⟨h1,h2⟩|h2⟩:=h
     . exact PP.of ⟨e,H',rfl,he,rfl,.inl ⟨(by cases h1),h2⟩⟩ sl
     . exact PP.of ⟨e,H',rfl,he,rfl,.inr h2⟩ sl) ?_
    rintro SC Pp ⟨H4,rfl,rfl,nY⟩
    have SD:dj 32 Qt no=dj (32-(i+1)) (cq Q3 kd) kd:=by rw[hsh,kJ hrd N4,aS V1,zO];congr 1;omega
    refine OT.nil (.blk (.seq (.region (.U hT 2 rfl (.nil (.loop (i+1,kd,cq Q3 kd,H4) ?_ ?_ (aa.cons rfl (aa.cons rfl (aa.aM rfl (by(try dsimp only);exact(int_eq (by rw[wrap_i64 (by omega) (by omega)];omega))) (aa.nil _)))) sl))))))
    . dsimp only
      exact⟨by omega,hkm,SD,nY⟩
    . dsimp only
      omega
 .
  have c6:=of_decide_eq_false c6
  have h0:32-i=0:=by omega
  rw[h0]at hsh
  refine TT.exit (.seq (.loop (.here (.seq (.region ?_)))))
  refine OT.aY Tryz.call98 rfl rfl rfl rfl (lT) (fun _ _ h=>by
   obtain⟨rfl,rfl⟩:=h
   exact PP.of ⟨8,H1,by rw[bJ (by decide)],by decide,rfl,.inl ⟨by rw[hsh];rfl,Q1,tJ⟩⟩ sl) ?_
  rintro vw uo ⟨hb,_⟩
  exact hb.elim
end Go.Proofs.YtihpkgmfkbkffaaGreat.Sx
end
section
namespace Go.Proofs.YtihpkgmfkbkffaaGreat.Sx
open Go Go.Sx Go.Pl
variable[au]
set_option maxHeartbeats 2000000 in
set_option maxRecDepth 100000 in
theorem DV{b:Nat}{P:Value}{I:Chunk->Prop}{E:Int->Chunk->Prop}{Qb:ah}(hP:cW Tryz.prog 5 P I E (aK Qb))(hQ:cQ Qb){Qs:ah}{H Z:Chunk}{r:List Chunk}(hH:aV 110 b P I Qb Qs H){He:Nat}{caps:List Value}(hc:∀args w,(callFunc He args).run Tryz.prog w= .ok (.enter He args) w){R:ah->Chunk->Prop}{RE:Int->Prop}{ZE:Chunk->Prop}(Q6:∀{bt:Nat} {Ht:Chunk} {r':List Chunk},aV 110 bt (.iface 24 (.pointer (some ⟨b,0,none⟩))) (aV 110 b P I Qb Qs) Qs Qs Ht->aN Tryz.prog He (.pointer (some ⟨bt,0,none⟩)::caps) (Ht::Z::r') (fun v' hs'=>∃rG Z' Q',hs'=rG::Z'::r'/\aV 110 bt (.iface 24 (.pointer (some ⟨b,0,none⟩))) (aV 110 b P I Qb Qs) Qs Q' rG/\R Q' Z') (fun v' hs'=>∃e rG Z',v'=ta e/\e≠0/\hs'=rG::Z'::r'/\ZE Z'/\((RE e/\∃Q',aV 110 bt (.iface 24 (.pointer (some ⟨b,0,none⟩))) (aV 110 b P I Qb Qs) Qs Q' rG)\/∃e0,cI 110 bt (.iface 24 (.pointer (some ⟨b,0,none⟩))) (cI 110 b P E) e0 rG))){A:Chunk}{bs bf:Nat}:aN Tryz.prog 141 [.pointer (some ⟨bs,0,none⟩),.pointer (some ⟨bf,0,none⟩)] (A::[(bs,blk [.pointer (some ⟨b,0,none⟩)] 24 (0,0))]::[(bf,blk [.func (.func He) ⟨[]⟩ ⟨caps⟩] 173 (0,0))]::H::Z::r) (fun _ hs'=>∃dF,hs'=A::dF/\∃H' Z' Q',dF=H'::Z'::r/\R Q' Z'/\(aV 110 b P I Qb Q' H'\/cI 110 b P E 0 H')) (fun v' hs'=>∃e dF,hs'=A::dF/\v'=ta e/\∃H' Z',e≠0/\dF=H'::Z'::r/\ZE Z'/\((RE e/\aV 110 b P I Qb Qs H')\/cI 110 b P E 0 H')):=by
 refine aN.enter 33 Tryz.func141 rfl Tryz.ntmps141 rfl ?_
 obtain⟨ti,ui,V2⟩:=hP.iface
 refine TT.seq (.region (.load rfl rfl (Ld.one hT rfl hz rfl) rfl ?_))
 refine OT.U hT 1 rfl (.call Tryz.call118 rfl rfl rfl rfl (dr) ?_)
 rintro Ed rJ ⟨rfl,rfl⟩
 refine OT.nil (.seq (.seq (.region (.load rfl rfl (Ld.one hT rfl hz rfl) rfl ?_))))
 refine OT.bO Tryz.underlying24 rfl rfl rfl rfl (.call Tryz.call15 rfl rfl rfl rfl (aA.pull pl (Aj (ti:=24) (ui:= .pointer (some ⟨b,0,none⟩)) hH)) ?_)
 rintro qE kR ⟨bt,Ht,rfl,rfl,MQ⟩
 refine OT.U hT 1 rfl (.nil (.seq (.seq (.region (.load rfl rfl (Ld.one hT rfl hz rfl) rfl ?_)))))
 refine OT.U hT 1 rfl ?_
 refine OT.Lk hc rfl rfl rfl rfl (aN.weaken sl (Q6 ⟨_,MQ,rfl⟩)) (fun _ _ h=>by
  obtain⟨e,rG,Z',rfl,he,rfl,hZ,⟨hr,Q',m,⟨mb,M,G,rfl,_,_,hG⟩,_⟩|⟨_,m,mb,M,G,rfl,_,_,_,hG⟩⟩:=h
  . exact PP.of ⟨e,_,rfl,rfl,G,Z',he,rfl,hZ,.inl ⟨hr,hG⟩⟩ (.split (.split (.drop (.drop sl))))
  . exact PP.of ⟨e,_,rfl,rfl,G,Z',he,rfl,hZ,.inr hG⟩ (.split (.split (.drop (.drop sl))))) ?_
 rintro CL ur ⟨rG,Z',Q',rfl,Ql,hR⟩
 obtain⟨m,hm,rfl⟩:=Ql
 refine OT.nil (.seq (.seq (.region (.U hT 1 rfl (.call Tryz.call47 rfl rfl rfl rfl (aA.pull pl (s8 (bd:=false) (cu hP hQ) (hH.pL hQ) hm)) ?_)))))
 rintro iT eY ⟨bd,ts,HI,X3,rfl,Q7,jb,_,tr,zx,BN⟩
 have zM:=hm.may
 obtain⟨X4,M2,G2,rfl,_,_,V3⟩:=jb.is
 refine OT.perm yl ?_
 obtain⟨m0,hm0,CR⟩:=F6 V3
 have Hf:∀hs,mS (HI::hs) iT ts:=fun hs=>Q7.at (by omega) (fun t ht=>by have:=(zx t.GR (List.mem_map.2 ⟨t,ht,rfl⟩)).2;show t.b.length<=_;have e:t.GR.2=t.b:=rfl;rw[e]at this;omega)
 obtain⟨TK,fO,rfl⟩:=(Hf []).row.len
 refine OT.U hT 2 rfl (.nil (.seq (.block (.loop (ι:=Nat×iU×Chunk) (fun j=>(j.1)<=ts.length/\i_ 110 b P (St I E bd) (j.2.1) (j.2.2)/\(bd=false->dD Qb (j.2.1)=lay Qs ((jv ts).take (j.1)))) (fun j=>ts.length-(j.1)) (fun j=>[(0,.pointer (some ⟨bs,0,none⟩)),(16,.slice TK ts.length fO),(17,.int .i64 (ts.length:Nat)),(18,.int .i64 ((j.1):Nat))]) (fun j=>HI::(j.2.2)::A::[(bs,blk [.pointer (some ⟨b,0,none⟩)] 24 (0,0))]::Z'::r) (0,m0,G2) ?_ (aa.cons rfl (aa.cons rfl (aa.cons rfl (aa.cons rfl (aa.nil _))))) sl ?_))))
 . dsimp only
   exact⟨Nat.zero_le _,hm0,fun h=>by rw[CR h];rfl⟩
 rintro⟨i,m1,G1⟩ hI
 dsimp only at hI
 obtain⟨hi,pE,nR⟩:=hI
 show TT _ _ _ [(0,.pointer (some ⟨bs,0,none⟩)),(16,.slice TK ts.length fO),(17,.int .i64 (ts.length:Nat)),(18,.int .i64 (i:Nat))] (HI::G1::A::[(bs,blk [.pointer (some ⟨b,0,none⟩)] 24 (0,0))]::Z'::r)
 refine TT.seq (.region (.U hT 1 rfl (.nil (.seq (.seq (.cond rfl (fun zN=> ?_) (fun zN=> ?_)))))))
 .
  have zN:=of_decide_eq_true zN
  obtain⟨x,hx⟩:=nth (l:=ts) (i:=i) (by omega)
  have Na:=List.mem_of_getElem? hx
  have MA:=zx x.GR (List.mem_map.2 ⟨x,Na,rfl⟩)
  refine TT.skip (.seq (.seq (.block (.seq (.region (.index hT rfl rfl rfl rfl (Hf _).row (by omega) (by rw[Int.toNat_natCast];exact hx) rfl (fun UB L5=> ?_)))))))
  refine OT.load rfl rfl (L5.cO hT rfl) rfl (.alloc Tryz.zeroValue143 rfl rfl (fun nW=> ?_))
  refine OT.ag hT rfl rfl rfl rfl pl rfl rfl (Cd (Hf []) Na) (.inl (Nat.le_refl _)) ?_
  refine OT.nil (.seq (.seq (.region (.load rfl rfl (Ld.one hT rfl hz rfl) rfl ?_))))
  refine OT.U hT 1 rfl (.load rfl rfl (Ld.one hT rfl hz rfl) rfl ?_)
  refine OT.U hT 1 rfl (.load rfl rfl (Ld.slc hT rfl hz rfl) rfl ?_)
  refine OT.call Tryz.call109 rfl rfl rfl rfl (aA.pull pl (Ct V2 pE (((Hf _).each x Na).there) (by have h2:=MA.2;have e:x.GR.2=x.b:=rfl;rw[e]at h2;omega))) ?_
  rintro EC BG ⟨G3,rfl,⟨hno,_⟩|⟨_,hno,_⟩|⟨_,_,rfl,Qg⟩⟩
  .
   exact absurd MA.1 hno
  .
   exact absurd MA.2 hno
  .
   refine OT.U hT 1 rfl (.nil (.seq (.region (.U hT 3 rfl (.call Tryz.call118 rfl rfl rfl rfl (dr) ?_)))))
   rintro Sn O2 ⟨rfl,rfl⟩
   refine OT.nil (.blk (.seq (.region (.U hT 2 rfl (.nil (.loop (i+1,mW m1 x.no x.b,G3) ?_ ?_ (aa.cons rfl (aa.cons rfl (aa.cons rfl (aa.aM rfl (by(try dsimp only);exact(int_eq (by rw[wrap_i64 (by omega) (by omega)];omega))) (aa.nil _))))) sl))))))
   . dsimp only
     exact⟨by omega,Qg,fun h=>by rw[x8,nR h,yj (B8 hx)];rfl⟩
   . dsimp only
     omega
 .
  have zN:=of_decide_eq_false zN
  obtain rfl:i=ts.length:=by omega
  rw[List.take_of_length_le (by rw[qN];exact Nat.le_refl _)]at nR
  refine TT.exit (.seq (.loop (.here (.jm (rs:=[]) [] (A::G1::Z'::r) rfl .nil sl ?_))))
  try dsimp only[one]
  exact⟨_,rfl,G1,Z',_,rfl,hR,LC pE (fun h=>by rw[nR h,tr h];exact oM zM)⟩
set_option maxHeartbeats 1000000 in
set_option maxRecDepth 100000 in
theorem yI{b:Nat}{P:Value}{I:Chunk->Prop}{E:Int->Chunk->Prop}{Qb:ah}(hP:cW Tryz.prog 5 P I E (aK Qb))(hQ:cQ Qb){Qs:ah}{H Z:Chunk}{r:List Chunk}(hH:aV 110 b P I Qb Qs H){He:Nat}{caps:List Value}(hc:∀args w,(callFunc He args).run Tryz.prog w= .ok (.enter He args) w){R:ah->Chunk->Prop}{RE:Int->Prop}{ZE:Chunk->Prop}(Q6:∀{bt:Nat} {Ht:Chunk} {r':List Chunk},aV 110 bt (.iface 24 (.pointer (some ⟨b,0,none⟩))) (aV 110 b P I Qb Qs) Qs Qs Ht->aN Tryz.prog He (.pointer (some ⟨bt,0,none⟩)::caps) (Ht::Z::r') (fun v' hs'=>∃rG Z' Q',hs'=rG::Z'::r'/\aV 110 bt (.iface 24 (.pointer (some ⟨b,0,none⟩))) (aV 110 b P I Qb Qs) Qs Q' rG/\R Q' Z') (fun v' hs'=>∃e rG Z',v'=ta e/\e≠0/\hs'=rG::Z'::r'/\ZE Z'/\((RE e/\∃Q',aV 110 bt (.iface 24 (.pointer (some ⟨b,0,none⟩))) (aV 110 b P I Qb Qs) Qs Q' rG)\/∃e0,cI 110 bt (.iface 24 (.pointer (some ⟨b,0,none⟩))) (cI 110 b P E) e0 rG))):aA Tryz.prog 100 [.pointer (some ⟨b,0,none⟩),.func (.func He) ⟨[]⟩ ⟨caps⟩] (H::Z::r) (fun v' dF=>(v'= .int .i64 0/\∃H' Z' Q',dF=H'::Z'::r/\R Q' Z'/\(aV 110 b P I Qb Q' H'\/cI 110 b P E 0 H'))\/∃e,v'= .int .i64 e/\∃H' Z',e≠0/\dF=H'::Z'::r/\ZE Z'/\((RE e/\aV 110 b P I Qb Qs H')\/cI 110 b P E 0 H')):=by
 refine aA.enter 7 Tryz.func100 rfl Tryz.ntmps100 rfl ?_
 refine TT.seq (.region (.box rfl rfl rfl (fun b_2=> ?_)))
 refine OT.box rfl rfl rfl (fun pG=> ?_)
 refine OT.U hT 1 rfl (.nil (.seq (.seq (.region (.U hT 1 rfl (.call Tryz.call84 rfl rfl rfl rfl ((mL (N:=fun _ dF=>∃H' Z' Q',dF=H'::Z'::r/\R Q' Z'/\(aV 110 b P I Qb Q' H'\/cI 110 b P E 0 H')) (E:=fun e dF=>∃H' Z',e≠0/\dF=H'::Z'::r/\ZE Z'/\((RE e/\aV 110 b P I Qb Qs H')\/cI 110 b P E 0 H')) Tryz.call141 (fun A=>aN.weaken (by repeat(first|exact bp.refl _|refine bp.pull (by repeat(first|exact aR.head|apply aR.tail)) ?_)) (DV (A:=A) hP hQ hH hc Q6)))) ?_))))))
 rintro Ms zE h5
 refine OT.U hT 1 rfl (.nil (.seq (.ret (.of (rs:=[.tmp 4]) [_] zE rfl (.tmp rfl .nil) (.refl _) ?_))))
 try dsimp only[one]
 rcases h5 with⟨rfl,_,h⟩|⟨e,rfl,h⟩
 . exact .inl ⟨rfl,h⟩
 . exact .inr ⟨e,rfl,h⟩
end Go.Proofs.YtihpkgmfkbkffaaGreat.Sx
end
section
namespace Go.Proofs.YtihpkgmfkbkffaaGreat.Sx
open Go Go.Sx Go.Pl
variable[au]
set_option maxHeartbeats 2000000 in
set_option maxRecDepth 100000 in
theorem IX{b:Nat}{P:Value}{I:Chunk->Prop}{E:Int->Chunk->Prop}{Qb:ah}(hP:cW Tryz.prog 5 P I E (aK Qb))(hQ:cQ Qb){Qt:ah}{H:Chunk}{r:List Chunk}(hH:aV 110 b P I Qb Qt H){x:Cell}(hx:aC x=true)(gA:x.val.f<2^64/\x.new.f<2^64){bc:Nat}:aN Tryz.prog 101 [.pointer (some ⟨b,0,none⟩),.pointer (some ⟨bc,0,none⟩)] (H::[(bc,blk (aj x) 113 (0,0))]::r) (fun v' hs'=>∃H' Z' Q',hs'=H'::Z'::r/\aV 110 b P I Qb Q' H'/\dg Qt x= .ok Q') (fun v' hs'=>∃e H' Z',v'=ta e/\e≠0/\hs'=H'::Z'::r/\True/\((dg Qt x= .error e/\(fun H=>∃Q',aV 110 b P I Qb Q' H) H')\/∃e0,cI 110 b P E e0 H')):=by
 refine aN.enter 45 Tryz.func101 rfl Tryz.ntmps101 rfl ?_
 refine TT.seq (.region (.U hT 1 rfl (.bO Tryz.underlying24 rfl rfl rfl rfl ?_)))
 refine OT.aY Tryz.call94 rfl rfl rfl rfl (rE (cu hP hQ).D9 hH) (fun _ _ h=>by
  obtain⟨e,H',rfl,he,rfl,⟨h1,h2⟩|⟨_,e0,h2⟩⟩:=h
  . exact PP.of ⟨e,H',[(bc,blk (aj x) 113 (0,0))],rfl,he,rfl,trivial,.inl ⟨AH h1,_,h2⟩⟩ sl
  . exact PP.of ⟨e,H',[(bc,blk (aj x) 113 (0,0))],rfl,he,rfl,trivial,.inr ⟨_,h2⟩⟩ sl) ?_
 rintro Ed rJ ⟨H1,no,rfl,rfl,fX,j3⟩
 have mN:=f_ j3
 refine OT.U hT 1 rfl (.nil (.seq (.seq (.seq (.region (.U hT 2 rfl (.nil (.seq (.cond rfl (fun en=> ?_) (fun en=> ?_))))))))))
 .
  have en:no=0:=by simpa using en
  refine TT.seq (.region (.U hT 1 rfl ?_))
  refine OT.aY Tryz.call102 rfl rfl rfl rfl (wz hP hQ fX) (fun _ _ h=>by
   obtain⟨e,H',rfl,he,rfl,⟨h1,h2⟩|h2⟩:=h
   . exact PP.of ⟨e,H',[(bc,blk (aj x) 113 (0,0))],rfl,he,rfl,trivial,.inl ⟨(by rw[kE j3 en];exact bz h1),h2⟩⟩ sl
   . exact PP.of ⟨e,H',[(bc,blk (aj x) 113 (0,0))],rfl,he,rfl,trivial,.inr h2⟩ sl) ?_
  rintro K8 UC ⟨H2,n2,Q2,rfl,rfl,kX,dU⟩
  have hto:=sj kX
  refine OT.U hT 1 rfl (.nil (.seq (.seq (.region (.U hT 2 rfl ?_)))))
  refine OT.aY Tryz.call103 rfl rfl rfl rfl (kH hP hQ dU (no:=n2) (.inr hto)) (fun _ _ h=>by
   obtain⟨e,H',rfl,he,rfl,⟨h1,h2⟩|h2⟩:=h
   . exact PP.of ⟨e,H',[(bc,blk (aj x) 113 (0,0))],rfl,he,rfl,trivial,.inl ⟨(by cases h1),h2⟩⟩ sl
   . exact PP.of ⟨e,H',[(bc,blk (aj x) 113 (0,0))],rfl,he,rfl,trivial,.inr h2⟩ sl) ?_
  rintro CP uw ⟨H3,rfl,rfl,mV⟩
  refine OT.nil (.seq (.seq (.region (.U hT 2 rfl (.load rfl rfl (Ld.af hT rfl hz rfl) rfl ?_)))))
  refine OT.buildSlice (enc:=aj) (xs:=[x]) (gQ:=[.tmp 18]) jE rfl rfl rfl rfl rfl (by simp[Value.cells];rfl) (fun _ _=>rfl) rfl (by decide) rfl (fun jY w9 oh=> ?_)
  obtain⟨TA,zN,rfl⟩:=(oh.row (hs:=[])).len
  refine OT.build (cs:=[.bool true,.slice TA [x].length zN,.slice none 0 0,.slice none 0 0]) hT rfl Tryz.zeroValue159 rfl rfl rfl rfl ?_
  refine OT.aY Tryz.call104 rfl rfl rfl rfl (aN.pull pl (pW hP hQ mV (n:=⟨true,[x],[],[]⟩) ⟨_,_,_,rfl,oh.row,Row.nil,Row.nil⟩ (by simp) (by simp) (by simp) (fun c hc=>by rw[List.mem_singleton]at hc;subst hc;exact gA) (jM hto))) (fun _ _ h=>by
   obtain⟨e,H',rfl,he,rfl,⟨h1,h2⟩|h2⟩:=h
   . exact PP.of ⟨e,H',[(bc,blk (aj x) 113 (0,0))],rfl,he,rfl,trivial,.inl ⟨(by rw[kE j3 en];exact(aS kX).trans h1),h2⟩⟩ sl
   . exact PP.of ⟨e,H',[(bc,blk (aj x) 113 (0,0))],rfl,he,rfl,trivial,.inr h2⟩ sl) ?_
  rintro KL EX ⟨H4,Q4,rfl,rfl,Jj,nY⟩
  refine OT.nil (.seq (.ret (.jm (rs:=[]) [] (H4::[(bc,blk (aj x) 113 (0,0))]::r) rfl .nil sl ?_)))
  try dsimp only[one]
  exact⟨H4,_,Q4,rfl,nY,by rw[kE j3 en];exact(aS kX).trans Jj⟩
 .
  have en:no≠0:=by simpa using en
  have mN:=mN.resolve_left en
  refine TT.skip (.seq (.seq (.region (.U hT 2 rfl (.load rfl rfl (Ld.af hT rfl hz rfl) rfl ?_)))))
  refine OT.aY Tryz.call105 rfl rfl rfl rfl (DS hP hQ hx gA 32 0 rfl mN fX) (fun _ _ h=>by
   obtain⟨e,H',rfl,he,rfl,⟨h1,h2⟩|h2⟩:=h
   . exact PP.of ⟨e,H',[(bc,blk (aj x) 113 (0,0))],rfl,he,rfl,trivial,.inl ⟨(by rw[mE j3 en];exact bz h1),h2⟩⟩ sl
   . exact PP.of ⟨e,H',[(bc,blk (aj x) 113 (0,0))],rfl,he,rfl,trivial,.inr h2⟩ sl) ?_
  rintro vD UD ⟨H2,y,Q2,rfl,rfl,qz,dU⟩
  refine OT.alloc Tryz.zeroValue171 rfl rfl (fun nW=> ?_)
  refine OT.ag hT rfl rfl rfl rfl pl rfl rfl rfl (.inl (Nat.le_refl _)) ?_
  refine OT.nil (.seq (.seq (.region (.U hT 1 rfl (.load rfl rfl (Ld.one hT rfl hz rfl) rfl ?_)))))
  refine OT.U hT 1 rfl (.nil (.seq (.cond rfl (fun BQ=> ?_) (fun BQ=> ?_))))
  .
   have BQ:y.2≠0:=by simpa using BQ
   refine TT.seq (.region (.U hT 1 rfl ?_))
   refine OT.aY Tryz.call102 rfl rfl rfl rfl (aN.pull pl (wz hP hQ dU)) (fun _ _ h=>by
    obtain⟨e,H',rfl,he,rfl,⟨h1,h2⟩|h2⟩:=h
    . exact PP.of ⟨e,H',[(bc,blk (aj x) 113 (0,0))],rfl,he,rfl,trivial,.inl ⟨(by rw[kF j3 en qz BQ];exact bz h1),h2⟩⟩ sl
    . exact PP.of ⟨e,H',[(bc,blk (aj x) 113 (0,0))],rfl,he,rfl,trivial,.inr h2⟩ sl) ?_
   rintro vw uo ⟨H3,n3,Q3,rfl,rfl,GK,mV⟩
   have hto:=sj GK
   refine OT.U hT 1 rfl (.nil (.seq (.seq (.region (.U hT 3 rfl (.load rfl rfl (Ld.one hT rfl hz rfl) rfl ?_))))))
   refine OT.buildSlice (enc:=Go.Sx.ij) (xs:=[y.1]) (gQ:=[.tmp 34]) rI rfl rfl rfl rfl rfl (by simp[Value.cells]) (fun _ _=>rfl) rfl (by decide) rfl (fun R7 Xa JQ=> ?_)
   refine OT.U hT 2 rfl (.load rfl rfl (Ld.one hT rfl hz rfl) rfl ?_)
   refine OT.buildSlice (enc:=Go.Sx.cM) (xs:=[no,y.2]) (gQ:=[.tmp 36,.tmp 38]) jw rfl rfl rfl rfl rfl (by simp[Value.cells]) (fun _ _=>rfl) rfl (by decide) rfl (fun vu KG rR=> ?_)
   obtain⟨V4,Kj,rfl⟩:=(JQ.row (hs:=[])).len
   obtain⟨V5,tF,rfl⟩:=(rR.row (hs:=[])).len
   refine OT.build (cs:=[.bool false,.slice none 0 0,.slice V4 [y.1].length Kj,.slice V5 [no,y.2].length tF]) hT rfl Tryz.zeroValue159 rfl rfl rfl rfl ?_
   refine OT.aY Tryz.call104 rfl rfl rfl rfl (aN.pull pl (pW hP hQ mV (n:=⟨false,[],[y.1],[no,y.2]⟩) ⟨_,_,_,rfl,Row.nil,JQ.row.there,rR.row⟩ (by simp) (by simp) (by simp) (fun _ hc=>by cases hc) (jM hto))) (fun _ _ h=>by
    obtain⟨e,H',rfl,he,rfl,⟨h1,h2⟩|h2⟩:=h
    . exact PP.of ⟨e,H',[(bc,blk (aj x) 113 (0,0))],rfl,he,rfl,trivial,.inl ⟨(by rw[kF j3 en qz BQ];exact(aS GK).trans (bz h1)),h2⟩⟩ sl
    . exact PP.of ⟨e,H',[(bc,blk (aj x) 113 (0,0))],rfl,he,rfl,trivial,.inr h2⟩ sl) ?_
   rintro CK BC ⟨H4,Q4,rfl,rfl,Jj,nY⟩
   refine OT.nil (.seq (.region (.U hT 2 rfl ?_)))
   refine OT.aY Tryz.call103 rfl rfl rfl rfl (aN.pull pl (kH hP hQ nY (no:=n3) (.inr hto))) (fun _ _ h=>by
    obtain⟨e,H',rfl,he,rfl,⟨h1,h2⟩|h2⟩:=h
    . exact PP.of ⟨e,H',[(bc,blk (aj x) 113 (0,0))],rfl,he,rfl,trivial,.inl ⟨(by cases h1),h2⟩⟩ sl
    . exact PP.of ⟨e,H',[(bc,blk (aj x) 113 (0,0))],rfl,he,rfl,trivial,.inr h2⟩ sl) ?_
   rintro CN uv ⟨H5,rfl,rfl,V6⟩
   refine OT.nil (.jm (rs:=[]) [] (H5::[(bc,blk (aj x) 113 (0,0))]::r) rfl .nil sl ?_)
   try dsimp only[one]
   exact⟨H5,_,_,rfl,V6,by rw[kF j3 en qz BQ];exact(aS GK).trans (aS Jj)⟩
  .
   have BQ:y.2=0:=by simpa using BQ
   refine TT.skip (.jm (rs:=[]) [] (H2::[(bc,blk (aj x) 113 (0,0))]::r) rfl .nil sl ?_)
   try dsimp only[one]
   exact⟨H2,_,Q2,rfl,dU,nG j3 en qz BQ⟩
set_option maxHeartbeats 1000000 in
set_option maxRecDepth 100000 in
theorem An{b:Nat}{P:Value}{I:Chunk->Prop}{E:Int->Chunk->Prop}{Qb:ah}(hP:cW Tryz.prog 5 P I E (aK Qb))(hQ:cQ Qb){Qs:ah}{H:Chunk}{r:List Chunk}(hH:aV 110 b P I Qb Qs H){x:Cell}(gA:x.val.f<2^64/\x.new.f<2^64):aA Tryz.prog 54 [.pointer (some ⟨b,0,none⟩),.agg ⟨aj x⟩] (H::r) (fun v' hs'=>∃H' e,hs'=H'::r/\v'= .int .i64 e/\((aC x=false/\e=1/\aV 110 b P I Qb Qs H')\/(aC x=true/\((∃Q',e=0/\dg Qs x= .ok Q'/\aV 110 b P I Qb Q' H')\/(e≠0/\dg Qs x= .error e/\aV 110 b P I Qb Qs H')\/cI 110 b P E 0 H')))):=by
 refine aA.enter 11 Tryz.func54 rfl Tryz.ntmps54 rfl ?_
 refine TT.seq (.region (.box rfl rfl rfl (fun pG=> ?_)))
 refine OT.U hT 1 rfl (.nil (.seq (.seq (.seq (.region (.load rfl rfl (Ld.af hT rfl hz rfl) rfl ?_))))))
 refine OT.call Tryz.call99 rfl rfl rfl rfl (vV) ?_
 rintro Ms zE ⟨rfl,rfl⟩
 refine OT.U hT 1 rfl (.nil (.seq (.cond rfl (fun c7=> ?_) (fun c7=> ?_))))
 .
  have c7:aC x=false:=by simpa using c7
  refine TT.seq (.region (.U hT 1 rfl (.nil (.seq (.ret (.of (rs:=[.tmp 4]) [_] (H::r) rfl (.tmp rfl .nil) sl ?_))))))
  try dsimp only[one]
  exact⟨H,1,rfl,rfl,.inl ⟨c7,rfl,hH⟩⟩
 .
  have c7:aC x=true:=by simpa using c7
  refine TT.skip (.seq (.seq (.region (.U hT 2 rfl (.call Tryz.call100 rfl rfl rfl rfl (aA.weaken sl (yI hP hQ hH (R:=fun Q' _=>dg Qs x= .ok Q') (RE:=fun e=>dg Qs x= .error e) (ZE:=fun _=>True) (Z:=[(pG,blk (aj x) 113 (0,0))]) Tryz.call101 (fun hT=>IX (cu hP hQ) (hH.pL hQ) hT c7 gA))) ?_)))))
  rintro nZ jF (⟨rfl,H',Z',Q',rfl,hR,hS⟩|⟨e,rfl,H',Z',he,rfl,_,hS⟩)
  .
   refine OT.U hT 1 rfl (.nil (.seq (.ret (.of (rs:=[.tmp 4]) [_] (H'::r) rfl (.tmp rfl .nil) sl ?_))))
   try dsimp only[one]
   refine⟨H',0,rfl,rfl,.inr ⟨c7,?_⟩⟩
   rcases hS with hS|hS
   . exact .inl ⟨Q',rfl,hR,hS⟩
   . exact .inr (.inr hS)
  .
   refine OT.U hT 1 rfl (.nil (.seq (.ret (.of (rs:=[.tmp 4]) [_] (H'::r) rfl (.tmp rfl .nil) sl ?_))))
   try dsimp only[one]
   refine⟨H',e,rfl,rfl,.inr ⟨c7,?_⟩⟩
   rcases hS with⟨h1,h2⟩|hS
   . exact .inr (.inl ⟨he,h1,h2⟩)
   . exact .inr (.inr hS)
set_option maxHeartbeats 2000000 in
set_option maxRecDepth 100000 in
theorem IY{b:Nat}{P:Value}{I:Chunk->Prop}{E:Int->Chunk->Prop}{Qb:ah}(hP:cW Tryz.prog 5 P I E (aK Qb))(hQ:cQ Qb){Qt:ah}{H:Chunk}{r:List Chunk}(hH:aV 110 b P I Qb Qt H){k:ByteArray}{bk bh:Nat}:aN Tryz.prog 106 [.pointer (some ⟨b,0,none⟩),.pointer (some ⟨bk,0,none⟩),.pointer (some ⟨bh,0,none⟩)] (H::[(bk,blk [.string k] 9 (0,0))]::[(bh,blk [.bool false] 4 (0,0))]::r) (fun v' hs'=>∃H' has Q',hs'=H'::[(bk,blk [.string k] 9 (0,0))]::[(bh,blk [.bool has] 4 (0,0))]::r/\aV 110 b P I Qb Q' H'/\cN Qt k= .ok (has,Q')) (fun v' hs'=>∃e H' has,v'=ta e/\e≠0/\hs'=H'::[(bk,blk [.string k] 9 (0,0))]::[(bh,blk [.bool has] 4 (0,0))]::r/\((cN Qt k= .error e/\(fun H=>∃Q',aV 110 b P I Qb Q' H) H')\/∃e0,cI 110 b P E e0 H')):=by
 refine aN.enter 25 Tryz.func106 rfl Tryz.ntmps106 rfl ?_
 refine TT.seq (.region (.U hT 1 rfl (.bO Tryz.underlying24 rfl rfl rfl rfl ?_)))
 refine OT.aY Tryz.call94 rfl rfl rfl rfl (rE (cu hP hQ).D9 hH) (fun _ _ h=>by
  obtain⟨e,H',rfl,he,rfl,⟨h1,h2⟩|⟨_,e0,h2⟩⟩:=h
  . exact PP.of ⟨e,H',false,rfl,he,rfl,.inl ⟨AJ h1,_,h2⟩⟩ sl
  . exact PP.of ⟨e,H',false,rfl,he,rfl,.inr ⟨_,h2⟩⟩ sl) ?_
 rintro Ed rJ ⟨H1,no,rfl,rfl,fX,j3⟩
 have mN:=f_ j3
 refine OT.U hT 1 rfl (.nil (.seq (.seq (.seq (.region (.U hT 2 rfl (.nil (.seq (.cond rfl (fun en=> ?_) (fun en=> ?_))))))))))
 .
  have en:no=0:=by simpa using en
  refine TT.ret (.jm (rs:=[]) [] (H1::[(bk,blk [.string k] 9 (0,0))]::[(bh,blk [.bool false] 4 (0,0))]::r) rfl .nil sl ?_)
  try dsimp only[one]
  exact⟨H1,false,Qt,rfl,fX,qP j3 en⟩
 .
  have en:no≠0:=by simpa using en
  have mN:=mN.resolve_left en
  refine TT.skip (.seq (.seq (.region (.U hT 1 rfl (.nil (.seq (.seq (.region (.U hT 2 rfl (.load rfl rfl (Ld.one hT rfl hz rfl) rfl ?_))))))))))
  refine OT.aY Tryz.call107 rfl rfl rfl rfl (aN.pull pl (DT hP hQ 32 0 rfl mN fX)) (fun _ _ h=>by
   obtain⟨e,H',rfl,he,rfl,⟨h1,h2⟩|h2⟩:=h
   . exact PP.of ⟨e,H',false,rfl,he,rfl,.inl ⟨(by rw[mF j3 en];exact bz h1),h2⟩⟩ sl
   . exact PP.of ⟨e,H',false,rfl,he,rfl,.inr h2⟩ sl) ?_
  rintro CP uw ⟨H2,y,Q2,rfl,rfl,kg,dU⟩
  refine OT.U hT 3 rfl (.store hT rfl rfl rfl rfl pl rfl (Nat.le_of_ble_eq_true rfl) rfl (.inl (Nat.le_refl _)) rfl ?_)
  refine OT.U hT 1 rfl (.nil (.seq (.seq (.region (.U hT 1 rfl (.nil (.seq (.cond rfl (fun eK=> ?_) (fun eK=> ?_)))))))))
  .
   refine TT.region (.U hT 1 rfl ?_)
   refine OT.aY Tryz.call103 rfl rfl rfl rfl (aN.pull pl (kH hP hQ dU (no:=0) (.inl rfl))) (fun _ _ h=>by
    obtain⟨e,H',rfl,he,rfl,⟨h1,h2⟩|h2⟩:=h
    . exact PP.of ⟨e,H',y.1,rfl,he,rfl,.inl ⟨(by cases h1),h2⟩⟩ sl
    . exact PP.of ⟨e,H',y.1,rfl,he,rfl,.inr h2⟩ sl) ?_
   rintro vz rS ⟨H3,rfl,rfl,mV⟩
   refine OT.nil (.jm (rs:=[]) [] (H3::[(bk,blk [.string k] 9 (0,0))]::[(bh,blk [.bool y.1] 4 (0,0))]::r) rfl .nil sl ?_)
   try dsimp only[one]
   exact⟨H3,y.1,_,rfl,mV,qQ j3 en kg eK⟩
  .
   refine TT.seq (.region (.load rfl rfl (Ld.one hT rfl hz rfl) rfl ?_))
   refine OT.nil (.seq (.cond rfl (fun eF=> ?_) (fun eF=> ?_)))
   .
    refine TT.region (.U hT 2 rfl ?_)
    refine OT.aY Tryz.call108 rfl rfl rfl rfl (aN.pull pl (DU hP hQ dU mN)) (fun _ _ h=>by
     obtain⟨e,H',rfl,he,rfl,⟨h1,h2⟩|h2⟩:=h
     . exact PP.of ⟨e,H',y.1,rfl,he,rfl,.inl ⟨(by rw[nH j3 en kg eK eF];exact bz h1),h2⟩⟩ sl
     . exact PP.of ⟨e,H',y.1,rfl,he,rfl,.inr h2⟩ sl) ?_
    rintro EE xJ ⟨H3,Q3,rfl,rfl,GK,mV⟩
    refine OT.nil (.jm (rs:=[]) [] (H3::[(bk,blk [.string k] 9 (0,0))]::[(bh,blk [.bool y.1] 4 (0,0))]::r) rfl .nil sl ?_)
    try dsimp only[one]
    exact⟨H3,y.1,Q3,rfl,mV,by rw[nH j3 en kg eK eF,eF];exact aS GK⟩
   .
    refine TT.skip (.jm (rs:=[]) [] (H2::[(bk,blk [.string k] 9 (0,0))]::[(bh,blk [.bool y.1] 4 (0,0))]::r) rfl .nil sl ?_)
    try dsimp only[one]
    exact⟨H2,y.1,Q2,rfl,dU,by rw[sX j3 en kg eK eF,eF]⟩
theorem Gu{f:Nat}{vs:List Value}{hs r':List Chunk}{k:ByteArray}{bk bh:Nat}{Qs:ah}{S:ah->Chunk->Prop}{SB:Int->Chunk->Prop}(h:aN Tryz.prog f vs hs (fun v' hs'=>∃H' has Q',hs'=H'::[(bk,blk [.string k] 9 (0,0))]::[(bh,blk [.bool has] 4 (0,0))]::r'/\S Q' H'/\cN Qs k= .ok (has,Q')) (fun v' hs'=>∃e H' has,v'=ta e/\e≠0/\hs'=H'::[(bk,blk [.string k] 9 (0,0))]::[(bh,blk [.bool has] 4 (0,0))]::r'/\((cN Qs k= .error e/\∃Q',S Q' H')\/∃e0,SB e0 H'))):aN Tryz.prog f vs hs (fun v' hs'=>∃rG Z' Q',hs'=rG::Z'::r'/\S Q' rG/\(∃has,Z'=[(bk,blk [.string k] 9 (0,0))]++[(bh,blk [.bool has] 4 (0,0))]/\cN Qs k= .ok (has,Q'))) (fun v' hs'=>∃e rG Z',v'=ta e/\e≠0/\hs'=rG::Z'::r'/\(∃has,Z'=[(bk,blk [.string k] 9 (0,0))]++[(bh,blk [.bool has] 4 (0,0))])/\((cN Qs k= .error e/\∃Q',S Q' rG)\/∃e0,SB e0 rG)):=aN.zW h
 (fun _ _ ⟨H',has,Q',e,h1,h2⟩=>by subst e;exact⟨_,⟨H',_,Q',rfl,h1,has,rfl,h2⟩,jU.symm⟩)
 (fun _ _ ⟨e,H',has,e1,he,e2,h⟩=>by subst e2;exact⟨_,⟨e,H',_,e1,he,rfl,⟨has,rfl⟩,h⟩,jU.symm⟩)
set_option maxHeartbeats 2000000 in
set_option maxRecDepth 100000 in
theorem Ao{b:Nat}{P:Value}{I:Chunk->Prop}{E:Int->Chunk->Prop}{Qb:ah}(hP:cW Tryz.prog 5 P I E (aK Qb))(hQ:cQ Qb){Qs:ah}{H:Chunk}{r:List Chunk}(hH:aV 110 b P I Qb Qs H){k:ByteArray}:aA Tryz.prog 56 [.pointer (some ⟨b,0,none⟩),.string k] (H::r) (fun v' hs'=>∃H' has e,hs'=H'::r/\v'= .tuple ⟨[.bool has,.int .i64 e]⟩/\((∃Q',e=0/\cN Qs k= .ok (has,Q')/\aV 110 b P I Qb Q' H')\/(e≠0/\has=false/\cN Qs k= .error e/\aV 110 b P I Qb Qs H')\/((e≠0->has=false)/\cI 110 b P E 0 H'))):=by
 refine aA.enter 17 Tryz.func56 rfl Tryz.ntmps56 rfl ?_
 refine TT.seq (.region (.box rfl rfl rfl (fun pG=> ?_)))
 refine OT.U hT 2 rfl (.nil (.seq (.seq (.region (.alloc Tryz.zeroValue4 rfl rfl (fun eG=> ?_))))))
 refine OT.ag hT rfl rfl rfl rfl pl rfl rfl rfl (.inl (Nat.le_refl _)) ?_
 refine OT.nil (.seq (.seq (.region (.U hT 2 rfl (.perm (F7 (X:=[(eG,blk [.bool false] 4 (0,0))]) (Y:=[(pG,blk [.string k] 9 (0,0))]) (H:=H) (rest:=r)) (.call Tryz.call100 rfl rfl rfl rfl (aA.weaken sl (yI hP hQ hH (R:=fun Q' Z'=>∃has,Z'=[(pG,blk [.string k] 9 (0,0))]++[(eG,blk [.bool has] 4 (0,0))]/\cN Qs k= .ok (has,Q')) (RE:=fun e=>cN Qs k= .error e) (ZE:=fun Z'=>∃has,Z'=[(pG,blk [.string k] 9 (0,0))]++[(eG,blk [.bool has] 4 (0,0))]) (Z:=[(pG,blk [.string k] 9 (0,0))]++[(eG,blk [.bool false] 4 (0,0))]) Tryz.call106 (fun hT=>Gu (aN.perm jU (IY (k:=k) (bk:=pG) (bh:=eG) (cu hP hQ) (hH.pL hQ) hT))))) ?_))))))
 rintro nZ jF (⟨rfl,H',Z',Q',rfl,⟨has,rfl,hR⟩,hS⟩|⟨e,rfl,H',Z',he,rfl,⟨has,rfl⟩,hS⟩)
 .
  refine OT.perm jU (.U hT 1 rfl (.nil (.seq (.seq (.region (.load rfl rfl (Ld.one hT rfl hz rfl) rfl ?_))))))
  refine OT.U hT 1 rfl (.split 12 rfl (fun Ek=> ?_) (fun Ek=> ?_))
  .
   refine OT.U hT 6 rfl (.nil (.seq (.ret (.of (rs:=[.tmp 4,.tmp 5]) [_,_] (H'::r) rfl (.tmp rfl (.tmp rfl .nil)) sl ?_))))
   try dsimp only[one]
   refine⟨H',has,0,rfl,(by subst Ek;rfl),?_⟩
   rcases hS with hS|hS
   . exact .inl ⟨Q',rfl,hR,hS⟩
   . exact .inr (.inr ⟨fun h=>absurd rfl h,hS⟩)
  .
   refine OT.U hT 6 rfl (.nil (.seq (.ret (.of (rs:=[.tmp 4,.tmp 5]) [_,_] (H'::r) rfl (.tmp rfl (.tmp rfl .nil)) sl ?_))))
   try dsimp only[one]
   refine⟨H',has,0,rfl,(by subst Ek;rfl),?_⟩
   rcases hS with hS|hS
   . exact .inl ⟨Q',rfl,hR,hS⟩
   . exact .inr (.inr ⟨fun h=>absurd rfl h,hS⟩)
 .
  refine OT.perm jU (.U hT 1 rfl (.nil (.seq (.seq (.region (.load rfl rfl (Ld.one hT rfl hz rfl) rfl ?_))))))
  refine OT.U hT 1 rfl (.split 12 rfl (fun Ek=> ?_) (fun Ek=> ?_))
  .
   refine OT.U hT 6 rfl (.nil (.seq (.ret (.of (rs:=[.tmp 4,.tmp 5]) [_,_] (H'::r) rfl (.tmp rfl (.tmp rfl .nil)) sl ?_))))
   try dsimp only[one]
   refine⟨H',false,e,rfl,(by first|rfl|exact congrArg (fun z=>Value.tuple ⟨[.bool z,.int .i64 e]⟩) (by simpa using he)),?_⟩
   rcases hS with⟨h1,h2⟩|hS
   . exact .inr (.inl ⟨he,rfl,h1,h2⟩)
   . exact .inr (.inr ⟨fun _=>rfl,hS⟩)
  .
   refine OT.U hT 6 rfl (.nil (.seq (.ret (.of (rs:=[.tmp 4,.tmp 5]) [_,_] (H'::r) rfl (.tmp rfl (.tmp rfl .nil)) sl ?_))))
   try dsimp only[one]
   refine⟨H',false,e,rfl,(by first|rfl|exact congrArg (fun z=>Value.tuple ⟨[.bool z,.int .i64 e]⟩) (by simpa using he)),?_⟩
   rcases hS with⟨h1,h2⟩|hS
   . exact .inr (.inl ⟨he,rfl,h1,h2⟩)
   . exact .inr (.inr ⟨fun _=>rfl,hS⟩)
end Go.Proofs.YtihpkgmfkbkffaaGreat.Sx
end
section
namespace Go.Proofs.YtihpkgmfkbkffaaGreat.Sx
open Go Go.Sx Go.Pl
variable[au]
set_option maxHeartbeats 2000000 in
set_option maxRecDepth 100000 in
theorem IZ{P:Value}{I:Chunk->Prop}{E:Int->Chunk->Prop}{pg:Pg}{H:Chunk}{r:List Chunk}(hP:ni Tryz.prog 5 P I E pg)(hI:I H){k:ByteArray}{A:Chunk}{bt bk bh bc:Nat}:aN Tryz.prog 93 [.pointer (some ⟨bt,0,none⟩),.pointer (some ⟨bk,0,none⟩),.pointer (some ⟨bh,0,none⟩),.pointer (some ⟨bc,0,none⟩)] (A::[(bt,blk [P] 107 (0,0))]::[(bk,blk [.string k] 9 (0,0))]::[(bh,blk [.bool false] 4 (0,0))]::[(bc,blk (aj noCell) 113 (0,0))]::H::r) (fun _ hs'=>∃dF,hs'=A::dF/\∃o H',getTop pg k= .ok o/\I H'/\dF=[(bt,blk [P] 107 (0,0))]::[(bk,blk [.string k] 9 (0,0))]::[(bh,blk [.bool o.isSome] 4 (0,0))]::[(bc,blk (aj (o.getD noCell)) 113 (0,0))]::H'::r) (fun v' hs'=>∃e dF,hs'=A::dF/\v'=ta e/\e≠0/\∃H',dF=[(bt,blk [P] 107 (0,0))]::[(bk,blk [.string k] 9 (0,0))]::[(bh,blk [.bool false] 4 (0,0))]::[(bc,blk (aj noCell) 113 (0,0))]::H'::r/\((getTop pg k= .error e/\I H')\/∃e0,E e0 H')):=by
 refine aN.enter 39 Tryz.func93 rfl Tryz.ntmps93 rfl ?_
 refine TT.seq (.region (.load rfl rfl (Ld.one hT rfl hz rfl) rfl ?_))
 refine OT.aY Tryz.call94 rfl rfl rfl rfl (aN.pull pl (rE hP hI)) (fun _ _ h=>by
  obtain⟨e,H',rfl,he,rfl,⟨h1,h2⟩|⟨e0,h2⟩⟩:=h
  . exact PP.of ⟨e,_,rfl,rfl,he,H',rfl,.inl ⟨AK h1,h2⟩⟩ sl
  . exact PP.of ⟨e,_,rfl,rfl,he,H',rfl,.inr ⟨e0,h2⟩⟩ sl) ?_
 rintro Ed rJ ⟨H1,no,rfl,rfl,fX,j3⟩
 have mN:=f_ j3
 refine OT.U hT 1 rfl (.nil (.seq (.seq (.seq (.region (.U hT 1 rfl (.nil (.seq (.block (.loop (ι:=Nat×Int×Chunk) (fun j=>(j.1)<=32/\((j.2.1)=0\/ay (j.2.1))/\I (j.2.2)/\getTop pg k=qC pg k (32-(j.1)) (j.2.1)) (fun j=>32-(j.1)) (fun j=>[(0,.pointer (some ⟨bt,0,none⟩)),(1,.pointer (some ⟨bk,0,none⟩)),(2,.pointer (some ⟨bh,0,none⟩)),(3,.pointer (some ⟨bc,0,none⟩)),(4,.int .i64 (j.2.1)),(9,.int .i64 ((j.1):Nat))]) (fun j=>A::[(bt,blk [P] 107 (0,0))]::[(bk,blk [.string k] 9 (0,0))]::[(bh,blk [.bool false] 4 (0,0))]::[(bc,blk (aj noCell) 113 (0,0))]::(j.2.2)::r) (0,no,H1) ?_ (aa.cons rfl (aa.cons rfl (aa.cons rfl (aa.cons rfl (aa.cons rfl (aa.cons rfl (aa.nil _))))))) sl ?_))))))))))
 . dsimp only
   exact⟨by omega,mN,fX,qd j3⟩
 rintro⟨i,no,H1⟩ hI
 dsimp only at hI
 obtain⟨hi,mN,fX,hgt⟩:=hI
 show TT _ _ _ [(0,.pointer (some ⟨bt,0,none⟩)),(1,.pointer (some ⟨bk,0,none⟩)),(2,.pointer (some ⟨bh,0,none⟩)),(3,.pointer (some ⟨bc,0,none⟩)),(4,.int .i64 no),(9,.int .i64 (i:Nat))] (A::[(bt,blk [P] 107 (0,0))]::[(bk,blk [.string k] 9 (0,0))]::[(bh,blk [.bool false] 4 (0,0))]::[(bc,blk (aj noCell) 113 (0,0))]::H1::r)
 refine TT.seq (.region (.U hT 1 rfl (.nil (.seq (.seq (.cond rfl (fun en=> ?_) (fun en=> ?_)))))))
 .
  have en:=of_decide_eq_true en
  obtain⟨f,hf⟩:∃f,32-i=f+1:=⟨32-i-1,by omega⟩
  have hf':32-(i+1)=f:=by omega
  refine TT.skip (.seq (.seq (.block (.seq (.seq (.region (.U hT 2 rfl (.nil (.seq (.cond rfl (fun fu=> ?_) (fun fu=> ?_)))))))))))
  .
   have fu:no=0:=by simpa using fu
   refine TT.ret (.jm (rs:=[]) [] (A::[(bt,blk [P] 107 (0,0))]::[(bk,blk [.string k] 9 (0,0))]::[(bh,blk [.bool false] 4 (0,0))]::[(bc,blk (aj noCell) 113 (0,0))]::H1::r) rfl .nil sl ?_)
   try dsimp only[one]
   exact⟨_,rfl,none,H1,by rw[hgt,hf];exact uK fu,fX,rfl⟩
  .
   have fu:no≠0:=by simpa using fu
   have hno:=mN.resolve_left fu
   refine TT.skip (.seq (.seq (.region (.load rfl rfl (Ld.one hT rfl hz rfl) rfl ?_))))
   refine OT.U hT 1 rfl ?_
   refine OT.aY Tryz.call95 rfl rfl rfl rfl (aN.pull pl (mm hP fX (iw hno))) (fun _ _ h=>by
    obtain⟨e,H',rfl,he,rfl,⟨h1,h2⟩|⟨e0,h2⟩⟩:=h
    . exact PP.of ⟨e,_,rfl,rfl,he,H',rfl,.inl ⟨(by rw[hgt,hf];exact F8 fu h1),h2⟩⟩ sl
    . exact PP.of ⟨e,_,rfl,rfl,he,H',rfl,.inr ⟨e0,h2⟩⟩ sl) ?_
   rintro CP uw ⟨H2,K,cs,n,rfl,rfl,hN,dU,hrd⟩
   have hni:=(fU hrd).nd
   have hnc:=hni.cells
   have hnk:=hni.keys
   have hnd:=hni.kids
   obtain⟨vc,vk,vi,KA,KB,KC,rfl,rfl,iF,iG,nX⟩:=hN.is
   obtain⟨ac,cc,e1⟩:=(iF.row (hs:=[])).len
   obtain⟨ak,ck,e2⟩:=(iG.row (hs:=[])).len
   obtain⟨ai,ci,e3⟩:=(nX.row (hs:=[])).len
   subst e1 e2 e3
   refine OT.perm iu ?_
   have Jk:∀hs,gf (KA::KB::KC::hs) [.bool n.leaf,.slice ac n.cells.length cc,.slice ak n.keys.length ck,.slice ai n.kids.length ci] n:=fun hs=>⟨_,_,_,rfl,iF.row,iG.row.there,nX.row.there.there⟩
   refine OT.alloc Tryz.zeroValue159 rfl rfl (fun g_=> ?_)
   refine OT.ag hT rfl rfl rfl rfl pl rfl rfl rfl (.inl (Nat.le_refl _)) ?_
   refine OT.nil (.seq (.seq (.seq (.region (.U hT 1 rfl (.load rfl rfl (Ld.one hT rfl hz rfl) rfl ?_))))))
   refine OT.nil (.seq (.cond rfl (fun jn=> ?_) (fun jn=> ?_)))
   .
    have hlf:n.leaf=true:=jn
    refine TT.seq (.region (.U hT 1 rfl (.nil (.seq (.seq (.seq (.region (.load rfl rfl (Ld.af hT rfl hz rfl) rfl ?_))))))))
    refine OT.load rfl rfl (Ld.one hT rfl hz rfl) rfl ?_
    refine OT.call Tryz.call96 rfl rfl rfl rfl (wu ((Jk _).mono fun _ _ h=>(.there (.there h))) (by omega) hni.kV) ?_
    rintro KL EX ⟨rfl,rfl⟩
    refine OT.U hT 4 rfl (.store hT rfl rfl rfl rfl pl rfl (Nat.le_of_ble_eq_true rfl) rfl (.inl (Nat.le_refl _)) rfl ?_)
    refine OT.nil (.seq (.seq (.region (.load rfl rfl (Ld.one hT rfl hz rfl) rfl ?_))))
    refine OT.nil (.seq (.cond rfl (fun tc=> ?_) (fun tc=> ?_)))
    .
     have tc:=of_decide_eq_true tc
     obtain⟨z,nS,zu⟩:=ei tc
     refine TT.region (.U hT 1 rfl (.load rfl rfl (Ld.slc hT rfl hz rfl) rfl ?_))
     refine OT.U hT 1 rfl (.index hT rfl rfl rfl rfl iF.row.there.there.there (by omega) (by rw[Int.toNat_natCast];exact nS) rfl (fun Pq Ap=> ?_))
     refine OT.load rfl rfl (Ap.cO hT rfl) rfl (.store hT rfl rfl rfl rfl pl rfl (Nat.le_of_ble_eq_true rfl) rfl (.inl (Nat.le_refl _)) rfl ?_)
     refine OT.nil (.seq (.ret (.jm (rs:=[]) [] (A::[(bt,blk [P] 107 (0,0))]::[(bk,blk [.string k] 9 (0,0))]::[(bh,blk [.bool (decide ((keysOf n.cells)[(aL (keysOf n.cells) k)]? =some k))] 4 (0,0))]::[(bc,blk (aj z) 113 (0,0))]::H2::r) rfl .nil sl ?_)))
     try dsimp only[one]
     have e:=decide_eq_true tc
     exact⟨_,rfl,some z,H2,by rw[hgt,hf,qc fu hrd hlf,uL nS zu],dU,by rw[e];rfl⟩
    .
     have tc:=of_decide_eq_false tc
     refine TT.skip (.seq (.ret (.jm (rs:=[]) [] (A::[(bt,blk [P] 107 (0,0))]::[(bk,blk [.string k] 9 (0,0))]::[(bh,blk [.bool (decide ((keysOf n.cells)[(aL (keysOf n.cells) k)]? =some k))] 4 (0,0))]::[(bc,blk (aj noCell) 113 (0,0))]::H2::r) rfl .nil sl ?_)))
     try dsimp only[one]
     have e:=decide_eq_false tc
     exact⟨_,rfl,none,H2,by rw[hgt,hf,qc fu hrd hlf,jh tc],dU,by rw[e];rfl⟩
   .
    have hlf:n.leaf=false:=jn
    obtain⟨kd,G_,zO,hkm⟩:=hni.ct hlf k
    have nT:=gu n.keys k
    have hkk:=(hni.ways hlf).1
    refine TT.skip (.seq (.draw (([(g_,blk [.bool n.leaf,.slice ac n.cells.length cc,.slice ak n.keys.length ck,.slice ai n.kids.length ci] 159 (0,0))]::KC::[(bk,blk [.string k] 9 (0,0))]::r)) mixed (.takes (fuel:=7) hT [0] kr kr rfl (.take (fuel:=6) hT 1 rfl rfl kr kr kr rfl (.load rfl (Ld.slc hT rfl hz rfl)) rfl ?_))))
    refine AT.take (fuel:=5) hT 2 rfl rfl kr kr kr rfl (.load rfl (Ld.af hT rfl hz rfl)) rfl ?_
    refine AT.take (fuel:=4) hT 3 rfl rfl kr kr kr rfl (.load rfl (Ld.one hT rfl hz rfl)) rfl ?_
    refine AT.op (fuel:=3) 4 kr rfl sl (.call Tryz.call97 rfl rfl rfl rfl (Am ((Jk _).mono fun _ _ h=>(.there (.there h))) hni hlf) ?_)
    rintro Hv BA ⟨rfl,rfl⟩
    refine OT.nil (.any (.index (fuel:=2) hT 5 rfl kr kr kr rfl rfl rfl rfl nX.row.there (by omega) (by rw[Int.toNat_natCast];exact G_) rfl (fun xS iL=> ?_)))
    refine AT.take (fuel:=1) hT 6 rfl rfl kr kr kr rfl (.load rfl (iL.bL hT rfl rfl)) rfl (.takes (fuel:=0) hT [7] kr kr rfl (.done kr sl (.blk (.seq (.region (.U hT 2 rfl (.nil (.loop (i+1,kd,H2) ?_ ?_ (aa.cons rfl (aa.cons rfl (aa.cons rfl (aa.cons rfl (aa.cons rfl (aa.aM rfl (by(try dsimp only);exact(int_eq (by rw[wrap_i64 (by omega) (by omega)];omega))) (aa.nil _))))))) sl))))))))
    . dsimp only
      exact⟨by omega,.inr hkm,dU,by rw[hf',hgt,hf,ym fu hrd hlf,zO]⟩
    . dsimp only
      omega
 .
  have en:=of_decide_eq_false en
  obtain rfl:i=32:=by omega
  refine TT.exit (.seq (.loop (.here (.seq (.region ?_)))))
  refine OT.aY Tryz.call98 rfl rfl rfl rfl (lT) (fun _ _ h=>by
   obtain⟨rfl,rfl⟩:=h
   exact PP.of ⟨8,_,rfl,by rw[bJ (by decide)],by decide,H1,rfl,.inl ⟨by rw[hgt];rfl,fX⟩⟩ sl) ?_
  rintro xe ux ⟨hb,_⟩
  exact hb.elim
set_option maxHeartbeats 2000000 in
set_option maxRecDepth 100000 in
theorem Ft{P:Value}{I:Chunk->Prop}{E:Int->Chunk->Prop}{pg:Pg}{H:Chunk}{r:List Chunk}(hP:ni Tryz.prog 5 P I E pg)(hI:I H){k:ByteArray}:aA Tryz.prog 53 [P,.string k] (H::r) (fun v' hs'=>∃H' o e,hs'=H'::r/\v'= .tuple ⟨[.agg ⟨aj (o.getD noCell)⟩,.bool o.isSome,.int .i64 e]⟩/\((e=0/\getTop pg k= .ok o/\I H')\/(e≠0/\o=none/\((getTop pg k= .error e/\I H')\/∃e0,E e0 H')))):=by
 refine aA.enter 12 Tryz.func53 rfl Tryz.ntmps53 rfl ?_
 obtain⟨ti,ui,Nb⟩:=hP.iface
 subst Nb
 refine TT.seq (.region (.box rfl rfl rfl (fun b_2=> ?_)))
 refine OT.box rfl rfl rfl (fun pG=> ?_)
 refine OT.alloc Tryz.zeroValue113 rfl rfl (fun nW=> ?_)
 refine OT.alloc Tryz.zeroValue4 rfl rfl (fun g_=> ?_)
 refine OT.U hT 1 rfl (.nil (.seq (.seq (.region (.U hT 1 rfl (.call Tryz.call84 rfl rfl rfl rfl ((mL (N:=fun _ dF=>∃o H',getTop pg k= .ok o/\I H'/\dF=[(b_2,blk [.iface ti ui] 107 (0,0))]::[(pG,blk [.string k] 9 (0,0))]::[(g_,blk [.bool o.isSome] 4 (0,0))]::[(nW,blk (aj (o.getD noCell)) 113 (0,0))]::H'::r) (E:=fun e dF=>e≠0/\∃H',dF=[(b_2,blk [.iface ti ui] 107 (0,0))]::[(pG,blk [.string k] 9 (0,0))]::[(g_,blk [.bool false] 4 (0,0))]::[(nW,blk (aj noCell) 113 (0,0))]::H'::r/\((getTop pg k= .error e/\I H')\/∃e0,E e0 H')) Tryz.call93 (fun A=>aN.weaken (by repeat(first|exact bp.refl _|refine bp.pull (by repeat(first|exact aR.head|apply aR.tail)) ?_)) (IZ (A:=A) (k:=k) (bt:=b_2) (bk:=pG) (bh:=g_) (bc:=nW) hP hI)))) ?_))))))
 rintro Ed rJ (⟨rfl,_,o,H',hgt,zy,rfl⟩|⟨e,rfl,he,H',rfl,mX⟩)
 .
  refine OT.U hT 1 rfl (.nil (.seq (.seq (.draw (r) mixed (.takes (fuel:=5) hT [2] kr kr rfl (.all (fuel:=4) [0,1] kr (by decide) sl ?_))))))
  intro i hi
  simp only[List.mem_cons,List.not_mem_nil,or_false]at hi
  rcases hi with rfl|rfl
  .
   refine⟨_,rfl,?_⟩
   refine OT.load rfl rfl (Ld.af hT rfl hz rfl) rfl ?_
   refine OT.nil (.any (.all (fuel:=3) [1,3] kr (by decide) sl ?_))
   intro i hi
   simp only[List.mem_cons,List.not_mem_nil,or_false]at hi
   rcases hi with rfl|rfl
   .
    refine⟨_,rfl,?_⟩
    refine OT.load rfl rfl (Ld.one hT rfl hz rfl) rfl ?_
    refine OT.nil (.any (.op (fuel:=2) 3 kr rfl sl (.ag hT rfl rfl rfl rfl pl rfl rfl rfl (.inl (Nat.le_refl _)) ?_)))
    refine OT.nil (.any (.op (fuel:=1) 4 kr rfl sl (.ag hT rfl rfl rfl rfl pl rfl rfl rfl (.inl (Nat.le_refl _)) ?_)))
    refine OT.nil (.any (.takes (fuel:=0) hT [5] kr kr rfl (.done kr sl (.seq (.ret (.of (rs:=[.cell 4 113,.cell 5 4,.tmp 6]) [_,_,_] (H'::r) rfl (.cell rfl (Ld.af hT rfl hz rfl) (.cell rfl (Ld.one hT rfl hz rfl) (.tmp rfl .nil))) sl ?_))))))
    try dsimp only[one]
    exact⟨H',o,0,rfl,rfl,.inl ⟨rfl,hgt,zy⟩⟩
   .
    refine⟨_,rfl,?_⟩
    refine OT.ag hT rfl rfl rfl rfl pl rfl rfl rfl (.inl (Nat.le_refl _)) ?_
    refine OT.nil (.any (.op (fuel:=2) 1 kr rfl sl (.load rfl rfl (Ld.one hT rfl hz rfl) rfl ?_)))
    refine OT.nil (.any (.op (fuel:=1) 4 kr rfl sl (.ag hT rfl rfl rfl rfl pl rfl rfl rfl (.inl (Nat.le_refl _)) ?_)))
    refine OT.nil (.any (.takes (fuel:=0) hT [5] kr kr rfl (.done kr sl (.seq (.ret (.of (rs:=[.cell 4 113,.cell 5 4,.tmp 6]) [_,_,_] (H'::r) rfl (.cell rfl (Ld.af hT rfl hz rfl) (.cell rfl (Ld.one hT rfl hz rfl) (.tmp rfl .nil))) sl ?_))))))
    try dsimp only[one]
    exact⟨H',o,0,rfl,rfl,.inl ⟨rfl,hgt,zy⟩⟩
  .
   refine⟨_,rfl,?_⟩
   refine OT.load rfl rfl (Ld.one hT rfl hz rfl) rfl ?_
   refine OT.nil (.any (.op (fuel:=3) 0 kr rfl sl (.load rfl rfl (Ld.af hT rfl hz rfl) rfl ?_)))
   refine OT.nil (.any (.op (fuel:=2) 3 kr rfl sl (.ag hT rfl rfl rfl rfl pl rfl rfl rfl (.inl (Nat.le_refl _)) ?_)))
   refine OT.nil (.any (.op (fuel:=1) 4 kr rfl sl (.ag hT rfl rfl rfl rfl pl rfl rfl rfl (.inl (Nat.le_refl _)) ?_)))
   refine OT.nil (.any (.takes (fuel:=0) hT [5] kr kr rfl (.done kr sl (.seq (.ret (.of (rs:=[.cell 4 113,.cell 5 4,.tmp 6]) [_,_,_] (H'::r) rfl (.cell rfl (Ld.af hT rfl hz rfl) (.cell rfl (Ld.one hT rfl hz rfl) (.tmp rfl .nil))) sl ?_))))))
   try dsimp only[one]
   exact⟨H',o,0,rfl,rfl,.inl ⟨rfl,hgt,zy⟩⟩
 .
  refine OT.U hT 1 rfl (.nil (.seq (.seq (.draw (r) mixed (.takes (fuel:=5) hT [2] kr kr rfl (.all (fuel:=4) [0,1] kr (by decide) sl ?_))))))
  intro i hi
  simp only[List.mem_cons,List.not_mem_nil,or_false]at hi
  rcases hi with rfl|rfl
  .
   refine⟨_,rfl,?_⟩
   refine OT.load rfl rfl (Ld.af hT rfl hz rfl) rfl ?_
   refine OT.nil (.any (.all (fuel:=3) [1,3] kr (by decide) sl ?_))
   intro i hi
   simp only[List.mem_cons,List.not_mem_nil,or_false]at hi
   rcases hi with rfl|rfl
   .
    refine⟨_,rfl,?_⟩
    refine OT.load rfl rfl (Ld.one hT rfl hz rfl) rfl ?_
    refine OT.nil (.any (.op (fuel:=2) 3 kr rfl sl (.ag hT rfl rfl rfl rfl pl rfl rfl rfl (.inl (Nat.le_refl _)) ?_)))
    refine OT.nil (.any (.op (fuel:=1) 4 kr rfl sl (.ag hT rfl rfl rfl rfl pl rfl rfl rfl (.inl (Nat.le_refl _)) ?_)))
    refine OT.nil (.any (.takes (fuel:=0) hT [5] kr kr rfl (.done kr sl (.seq (.ret (.of (rs:=[.cell 4 113,.cell 5 4,.tmp 6]) [_,_,_] (H'::r) rfl (.cell rfl (Ld.af hT rfl hz rfl) (.cell rfl (Ld.one hT rfl hz rfl) (.tmp rfl .nil))) sl ?_))))))
    try dsimp only[one]
    exact⟨H',none,e,rfl,rfl,.inr ⟨he,rfl,mX⟩⟩
   .
    refine⟨_,rfl,?_⟩
    refine OT.ag hT rfl rfl rfl rfl pl rfl rfl rfl (.inl (Nat.le_refl _)) ?_
    refine OT.nil (.any (.op (fuel:=2) 1 kr rfl sl (.load rfl rfl (Ld.one hT rfl hz rfl) rfl ?_)))
    refine OT.nil (.any (.op (fuel:=1) 4 kr rfl sl (.ag hT rfl rfl rfl rfl pl rfl rfl rfl (.inl (Nat.le_refl _)) ?_)))
    refine OT.nil (.any (.takes (fuel:=0) hT [5] kr kr rfl (.done kr sl (.seq (.ret (.of (rs:=[.cell 4 113,.cell 5 4,.tmp 6]) [_,_,_] (H'::r) rfl (.cell rfl (Ld.af hT rfl hz rfl) (.cell rfl (Ld.one hT rfl hz rfl) (.tmp rfl .nil))) sl ?_))))))
    try dsimp only[one]
    exact⟨H',none,e,rfl,rfl,.inr ⟨he,rfl,mX⟩⟩
  .
   refine⟨_,rfl,?_⟩
   refine OT.load rfl rfl (Ld.one hT rfl hz rfl) rfl ?_
   refine OT.nil (.any (.op (fuel:=3) 0 kr rfl sl (.load rfl rfl (Ld.af hT rfl hz rfl) rfl ?_)))
   refine OT.nil (.any (.op (fuel:=2) 3 kr rfl sl (.ag hT rfl rfl rfl rfl pl rfl rfl rfl (.inl (Nat.le_refl _)) ?_)))
   refine OT.nil (.any (.op (fuel:=1) 4 kr rfl sl (.ag hT rfl rfl rfl rfl pl rfl rfl rfl (.inl (Nat.le_refl _)) ?_)))
   refine OT.nil (.any (.takes (fuel:=0) hT [5] kr kr rfl (.done kr sl (.seq (.ret (.of (rs:=[.cell 4 113,.cell 5 4,.tmp 6]) [_,_,_] (H'::r) rfl (.cell rfl (Ld.af hT rfl hz rfl) (.cell rfl (Ld.one hT rfl hz rfl) (.tmp rfl .nil))) sl ?_))))))
   try dsimp only[one]
   exact⟨H',none,e,rfl,rfl,.inr ⟨he,rfl,mX⟩⟩
end Go.Proofs.YtihpkgmfkbkffaaGreat.Sx
end
section
namespace Go.Proofs.YtihpkgmfkbkffaaGreat.Sx
open Go Go.Sx Go.Pl
variable[au]
set_option maxHeartbeats 1000000 in
set_option maxRecDepth 100000 in
theorem DW{v:Value}{l:List Int}{x:Int}{hs:List Chunk}(hr:Row Go.Sx.cM 1 hs v l)(hl:l.length<=1000000):aA Tryz.prog 159 [v,.int .i64 x] hs (fun v' hs'=>(∃i:Int,v'= .int .i64 i/\decide (0<=i)=decide (x∈l))/\hs=hs'):=by
 refine aA.enter 19 Tryz.func159 rfl Tryz.ntmps159 rfl ?_
 obtain⟨a0,c0,hv⟩:=hr.len
 subst hv
 refine TT.seq (.region (.U hT 1 rfl (.nil (.seq (.seq (.seq (.region (.U hT 3 rfl (.nil (.seq (.block (.loop (ι:=Nat) (fun j=>(j)<=l.length/\x∉l.take (j)) (fun j=>l.length-(j)) (fun j=>[(0,.slice a0 l.length c0),(1,.int .i64 x),(7,.int .i64 (l.length:Nat)),(8,.int .i64 ((j):Nat))]) (fun j=>hs) (0) ?_ (aa.cons rfl (aa.cons rfl (aa.cons rfl (aa.cons rfl (aa.nil _))))) sl ?_))))))))))))
 . exact⟨Nat.zero_le _,by simp⟩
 rintro i ⟨hi,hn⟩
 show TT _ _ _ [(0,.slice a0 l.length c0),(1,.int .i64 x),(7,.int .i64 (l.length:Nat)),(8,.int .i64 (i:Nat))] (hs)
 refine TT.seq (.region (.U hT 1 rfl (.nil (.seq (.seq (.cond rfl (fun c9=> ?_) (fun c9=> ?_)))))))
 .
  have c9:=of_decide_eq_true c9
  obtain⟨y,hy⟩:=nth (l:=l) (i:=i) (by omega)
  refine TT.skip (.seq (.seq (.block (.seq (.region (.U hT 2 rfl (.nil (.seq (.seq (.region (.U hT 3 rfl (.index hT rfl rfl rfl rfl hr (by omega) (by rw[Int.toNat_natCast];exact hy) rfl (fun EU nA=> ?_)))))))))))))
  refine OT.load rfl rfl (nA.bL hT rfl rfl) rfl (.U hT 1 rfl (.nil (.seq (.cond rfl (fun fO=> ?_) (fun fO=> ?_)))))
  .
   have fO:x=y:=by simpa using fO
   refine TT.seq (.region (.U hT 2 rfl (.nil (.seq (.ret (.of (rs:=[.tmp 4]) [_] hs rfl (.tmp rfl .nil) sl ?_))))))
   try dsimp only[one]
   refine⟨⟨(i:Nat),rfl,?_⟩,rfl⟩
   subst fO
   exact decide_eq_decide.2 ⟨fun _=>List.mem_of_getElem? hy,fun _=>by omega⟩
  .
   have fO:¬x=y:=by simpa using fO
   refine TT.skip (.blk (.seq (.region (.U hT 2 rfl (.nil (.loop (i+1) ?_ ?_ (aa.cons rfl (aa.cons rfl (aa.cons rfl (aa.aM rfl (by(try dsimp only);exact(int_eq (by rw[wrap_i64 (by omega) (by omega)];omega))) (aa.nil _))))) sl))))))
   . exact⟨by omega,by rw[List.take_add_one,hy];simp only[Option.toList_some,List.mem_append,List.mem_singleton];exact fun h=>h.elim hn fO⟩
   . omega
 .
  have c9:=of_decide_eq_false c9
  obtain rfl:i=l.length:=by omega
  rw[List.take_of_length_le (Nat.le_refl _)]at hn
  refine TT.exit (.seq (.loop (.here (.seq (.seq (.region (.U hT 1 rfl (.nil (.seq (.ret (.of (rs:=[.tmp 4]) [_] hs rfl (.tmp rfl .nil) sl ?_)))))))))))
  try dsimp only[one]
  exact⟨⟨-1,rfl,decide_eq_decide.2 ⟨fun h=>by omega,fun h=>absurd h hn⟩⟩,rfl⟩
set_option maxHeartbeats 1000000 in
set_option maxRecDepth 100000 in
theorem pq{v:Value}{l:List Int}{x:Int}{hs:List Chunk}(hr:Row Go.Sx.cM 1 hs v l)(hl:l.length<=1000000):aA Tryz.prog 119 [v,.int .i64 x] hs (fun v' hs'=>v'= .bool (decide (x∈l))/\hs=hs'):=by
 refine aA.enter 9 Tryz.func119 rfl Tryz.ntmps119 rfl ?_
 refine TT.seq (.region (.U hT 1 rfl (.nil (.seq (.seq (.region (.U hT 2 rfl (.call Tryz.call159 rfl rfl rfl rfl (DW hr hl) ?_))))))))
 rintro CV tD ⟨⟨i,rfl,hi⟩,rfl⟩
 refine OT.U hT 2 rfl (.nil (.seq (.ret (.of (rs:=[.tmp 4]) [_] hs rfl (.tmp rfl .nil) sl ?_))))
 try dsimp only[one]
 exact⟨congrArg Value.bool hi,rfl⟩
set_option maxHeartbeats 4000000 in
set_option maxRecDepth 100000 in
theorem ze{P:Value}{I:Chunk->Prop}{E:Int->Chunk->Prop}{pg:Pg}(hP:ni Tryz.prog 5 P I E pg){bw:Nat}{f:Nat}(ih:∀{st:aG} {vn vc:Value} {H K1 K2:Chunk} {r:List Chunk} {no:Int},ay no->32<=st.1.length+f->st.1.length<=32->st.2.length<=256*st.1.length->I H->Own Go.Sx.cM 1 3 vn st.1 K1->Own aj 8 113 vc st.2 K2->aN Tryz.prog 156 [.pointer (some ⟨bw,0,none⟩),.int .i64 no] (H::[(bw,blk [P,vn,vc] 182 (0,0))]::K1::K2::r) (fun v' hs'=>∃H' zP zQ zR zS g,hs'=H'::[(bw,blk [P,zP,zQ] 182 (0,0))]::zR::zS::r/\v'= .tuple ⟨[]⟩/\aZ pg f no st= .ok g/\Own Go.Sx.cM 1 3 zP g.1 zR/\Own aj 8 113 zQ g.2 zS/\I H') (dW I E (fun e=>aZ pg f no st= .error e) r)){st:aG}{vn vc:Value}{H K1 K2:Chunk}{r:List Chunk}{no:Int}(hno:ay no)(hf:32<=st.1.length+(f+1))(dF:st.1.length<=32)(kX:st.2.length<=256*st.1.length)(hI:I H)(eJ:Own Go.Sx.cM 1 3 vn st.1 K1)(pI:Own aj 8 113 vc st.2 K2):aN Tryz.prog 156 [.pointer (some ⟨bw,0,none⟩),.int .i64 no] (H::[(bw,blk [P,vn,vc] 182 (0,0))]::K1::K2::r) (fun v' hs'=>∃H' zP zQ zR zS g,hs'=H'::[(bw,blk [P,zP,zQ] 182 (0,0))]::zR::zS::r/\v'= .tuple ⟨[]⟩/\aZ pg (f+1) no st= .ok g/\Own Go.Sx.cM 1 3 zP g.1 zR/\Own aj 8 113 zQ g.2 zS/\I H') (dW I E (fun e=>aZ pg (f+1) no st= .error e) r):=by
 refine aN.enter 60 Tryz.func156 rfl Tryz.ntmps156 rfl ?_
 obtain⟨a1,c1,e1⟩:=(eJ.row (hs:=[])).len
 subst e1
 refine TT.seq (.region (.U hT 3 rfl (.load rfl rfl (Ld.slc hT rfl hz rfl) rfl ?_)))
 refine OT.U hT 3 rfl (.split 13 rfl (fun tE=> ?_) (fun tE=> ?_))
 .
  have tE:=of_decide_eq_true tE
  refine OT.U hT 3 rfl (.load rfl rfl (Ld.slc hT rfl hz rfl) rfl ?_)
  refine OT.U hT 1 rfl (.call Tryz.call119 rfl rfl rfl rfl (pq eJ.row.there.there (by omega)) ?_)
  rintro jY iE ⟨rfl,rfl⟩
  refine OT.U hT 2 rfl ?_
  refine OT.aY Tryz.call118 rfl rfl rfl rfl (bg) (fun _ _ h=>by
   obtain⟨hb,rfl,rfl⟩:=h
   have hb:no∈st.1:=by simpa using hb
   exact PP.of ⟨8,H,by rw[bJ (by decide)],by decide,rfl,.inl ⟨qR (.inr hb),hI⟩⟩ sl) ?_
  rintro CM uu ⟨hb,rfl,rfl⟩
  have hb:¬no∈st.1:=by simpa using hb
  have hok:¬(32<=st.1.length\/no∈st.1):=by
   rintro(h|h)
   . omega
   . exact hb h
  refine OT.nil (.seq (.seq (.region (.U hT 4 rfl (.load rfl rfl (Ld.slc hT rfl hz rfl) rfl ?_)))))
  refine OT.U hT 1 rfl ?_
  refine OT.buildSlice (enc:=Go.Sx.cM) (xs:=[no]) (gQ:=[.tmp 28]) jw rfl rfl rfl rfl rfl (by simp[Value.cells]) (fun _ _=>rfl) rfl (by decide) rfl (fun vv Xb Pr=> ?_)
  refine OT.append hT jw rfl rfl rfl rfl pl eJ (Pr.row) rfl (by simp only[List.length_singleton];omega) rfl (fun vw NH BH=> ?_)
  refine OT.U hT 2 rfl ?_
  obtain⟨V7,lW,rfl⟩:=(BH.row (hs:=[])).len
  refine OT.store hT rfl rfl rfl rfl pl rfl (Nat.le_of_ble_eq_true rfl) rfl (.inl (Nat.le_refl _)) rfl ?_
  refine OT.nil (.seq (.seq (.region (.U hT 3 rfl (.load rfl rfl (Ld.one hT rfl hz rfl) rfl ?_)))))
  refine OT.U hT 1 rfl ?_
  refine OT.aY Tryz.call95 rfl rfl rfl rfl (aN.pull pl (mm hP hI (iw hno))) (fun _ _ h=>by
   obtain⟨e,H',rfl,he,rfl,⟨h1,h2⟩|h2⟩:=h
   . exact PP.of ⟨e,H',rfl,he,rfl,.inl ⟨yT hok h1,h2⟩⟩ sl
   . exact PP.of ⟨e,H',rfl,he,rfl,.inr h2⟩ sl) ?_
  rintro xe ux ⟨H2,K,cs,n,rfl,rfl,hN,dU,hrd⟩
  have hni:=(fU hrd).nd
  have hnc:=hni.cells
  have hnd:=hni.kids
  obtain⟨TH,vk,vi,KA,KB,KC,rfl,rfl,iF,iG,nX⟩:=hN.is
  obtain⟨ac,cc,e1⟩:=(iF.row (hs:=[])).len
  obtain⟨ak,ck,e2⟩:=(iG.row (hs:=[])).len
  obtain⟨ai,ci,e3⟩:=(nX.row (hs:=[])).len
  subst e1 e2 e3
  refine OT.perm iu (.alloc Tryz.zeroValue159 rfl rfl (fun nW=> ?_))
  refine OT.ag hT rfl rfl rfl rfl pl rfl rfl rfl (.inl (Nat.le_refl _)) ?_
  refine OT.nil (.seq (.seq (.EP [10] (([(bw,blk [P,.slice V7 (st.1++[no]).length lW,vc] 182 (0,0))]::[(nW,blk [.bool n.leaf,.slice ac n.cells.length cc,.slice ak n.keys.length ck,.slice ai n.kids.length ci] 159 (0,0))]::r)) mixed (.takes (fuel:=6) hT [0,1,2,3,5] kr kr rfl (.take (fuel:=5) hT 4 rfl rfl kr kr kr rfl (.load rfl (Ld.slc hT rfl hz rfl)) rfl ?_)))))
  refine AT.take (fuel:=4) hT 6 rfl rfl kr kr kr rfl (.load rfl (Ld.slc hT rfl hz rfl)) rfl ?_
  refine AT.op (fuel:=3) 7 kr rfl sl ?_
  refine OT.append hT jE rfl rfl rfl rfl pl pI (iF.row.there.there) (gl _) (by omega) rfl (fun NX SE JR=> ?_)
  refine OT.nil (.any (.takes (fuel:=1) hT [8,9] kr kr rfl (.op (fuel:=0) 10 kr rfl sl ?_)))
  obtain⟨a46,pJ,rfl⟩:=(JR.row (hs:=[])).len
  refine OT.store hT rfl rfl rfl rfl pl rfl (Nat.le_of_ble_eq_true rfl) rfl (.inl (Nat.le_refl _)) rfl ?_
  refine OT.nil (.any (.Bi kr kr (.seq (.seq (.region (.U hT 1 rfl (.load rfl rfl (Ld.slc hT rfl hz rfl) rfl ?_)))))))
  refine OT.U hT 2 rfl (.nil (.seq (.block (.loop (ι:=Nat×aG×Value×Value×Chunk×Chunk×Chunk) (fun j=>(j.1)<=n.kids.length/\eM pg f (n.kids.take (j.1)) (st.1++[no],st.2++n.cells)= .ok (j.2.1)/\Own Go.Sx.cM 1 3 (j.2.2.1) (j.2.1).1 (j.2.2.2.2.2.1)/\Own aj 8 113 (j.2.2.2.1) (j.2.1).2 (j.2.2.2.2.2.2)/\I (j.2.2.2.2.1)) (fun j=>n.kids.length-(j.1)) (fun j=>[(0,.pointer (some ⟨bw,0,none⟩)),(50,.slice ai n.kids.length ci),(51,.int .i64 (n.kids.length:Nat)),(52,.int .i64 ((j.1):Nat))]) (fun j=>(j.2.2.2.2.1)::[(bw,blk [P,(j.2.2.1),(j.2.2.2.1)] 182 (0,0))]::(j.2.2.2.2.2.1)::(j.2.2.2.2.2.2)::KC::r) (0,(st.1++[no],st.2++n.cells),_,_,H2,NH,SE) ?_ (aa.cons rfl (aa.cons rfl (aa.cons rfl (aa.cons rfl (aa.nil _))))) sl ?_))))
  . dsimp only
    exact⟨Nat.zero_le _,uM,BH,JR,dU⟩
  rintro⟨i,g,Q8,Q9,H3,K3,K4⟩ hI
  dsimp only at hI
  obtain⟨hi,hk,TL,TM,mV⟩:=hI
  show TT _ _ _ [(0,.pointer (some ⟨bw,0,none⟩)),(50,.slice ai n.kids.length ci),(51,.int .i64 (n.kids.length:Nat)),(52,.int .i64 (i:Nat))] (H3::[(bw,blk [P,Q8,Q9] 182 (0,0))]::K3::K4::KC::r)
  refine TT.seq (.region (.U hT 1 rfl (.nil (.seq (.seq (.cond rfl (fun tG=> ?_) (fun tG=> ?_)))))))
  .
   have tG:=of_decide_eq_true tG
   obtain⟨x,hx⟩:=nth (l:=n.kids) (i:=i) (by omega)
   obtain⟨ga,gb,gc⟩:=AM (by simp only[List.length_append,List.length_singleton];omega) (by simp only[List.length_append,List.length_singleton];omega) hk
   simp only[List.length_append,List.length_singleton]at ga
   refine TT.skip (.seq (.seq (.block (.seq (.region (.index hT rfl rfl rfl rfl nX.row.there.there.there.there (by omega) (by rw[Int.toNat_natCast];exact hx) rfl (fun UE L6=> ?_)))))))
   refine OT.load rfl rfl (L6.bL hT rfl rfl) rfl (.U hT 1 rfl (.nil (.seq (.region (.U hT 2 rfl ?_)))))
   refine OT.aY Tryz.call156 rfl rfl rfl rfl (aN.pull pl (ih (hni.lE (List.mem_of_getElem? hx)) (by omega) gb gc mV TL TM)) (fun _ _ h=>by
    obtain⟨e,H',rfl,he,rfl,⟨h1,h2⟩|h2⟩:=h
    . exact PP.of ⟨e,H',rfl,he,rfl,.inl ⟨(by rw[kG hok hrd];exact AL (i:=i+1) ((nI hx hk).trans h1)),h2⟩⟩ sl
    . exact PP.of ⟨e,H',rfl,he,rfl,.inr h2⟩ sl) ?_
   rintro NF O4 ⟨H4,V8,V9,K5,K6,g2,rfl,rfl,ht,SF,SG,nY⟩
   refine OT.nil (.blk (.seq (.region (.U hT 2 rfl (.nil (.loop (i+1,g2,V8,V9,H4,K5,K6) ?_ ?_ (aa.cons rfl (aa.cons rfl (aa.cons rfl (aa.aM rfl (by(try dsimp only);exact(int_eq (by rw[wrap_i64 (by omega) (by omega)];omega))) (aa.nil _))))) sl))))))
   . dsimp only
     exact⟨by omega,(nI hx hk).trans ht,SF,SG,nY⟩
   . dsimp only
     omega
  .
   have tG:=of_decide_eq_false tG
   obtain rfl:i=n.kids.length:=by omega
   rw[List.take_of_length_le (Nat.le_refl _)]at hk
   refine TT.exit (.seq (.loop (.here (.jm (rs:=[]) [] (H3::[(bw,blk [P,Q8,Q9] 182 (0,0))]::K3::K4::r) rfl .nil sl ?_))))
   try dsimp only[one]
   exact⟨H3,Q8,Q9,K3,K4,g,rfl,rfl,(kG hok hrd).trans hk,TL,TM,mV⟩
 .
  have tE:=of_decide_eq_false tE
  refine OT.U hT 8 rfl ?_
  refine OT.aY Tryz.call118 rfl rfl rfl rfl (gL) (fun _ _ h=>by
   obtain⟨rfl,rfl⟩:=h
   exact PP.of ⟨8,H,by rw[bJ (by decide)],by decide,rfl,.inl ⟨qR (.inl (by omega)),hI⟩⟩ sl) ?_
  rintro CM uu ⟨hb,_⟩
  exact hb.elim
set_option maxHeartbeats 1000000 in
set_option maxRecDepth 100000 in
theorem zf{P:Value}{I:Chunk->Prop}{E:Int->Chunk->Prop}{pg:Pg}(hP:ni Tryz.prog 5 P I E pg){bw:Nat}{st:aG}{vn vc:Value}{H K1 K2:Chunk}{r:List Chunk}{no:Int}(hf:32<=st.1.length)(dF:st.1.length<=32)(hI:I H)(eJ:Own Go.Sx.cM 1 3 vn st.1 K1):aN Tryz.prog 156 [.pointer (some ⟨bw,0,none⟩),.int .i64 no] (H::[(bw,blk [P,vn,vc] 182 (0,0))]::K1::K2::r) (fun v' hs'=>∃H' zP zQ zR zS g,hs'=H'::[(bw,blk [P,zP,zQ] 182 (0,0))]::zR::zS::r/\v'= .tuple ⟨[]⟩/\aZ pg 0 no st= .ok g/\Own Go.Sx.cM 1 3 zP g.1 zR/\Own aj 8 113 zQ g.2 zS/\I H') (dW I E (fun e=>aZ pg 0 no st= .error e) r):=by
 refine aN.enter 60 Tryz.func156 rfl Tryz.ntmps156 rfl ?_
 obtain⟨a1,c1,e1⟩:=(eJ.row (hs:=[])).len
 subst e1
 refine TT.seq (.region (.U hT 3 rfl (.load rfl rfl (Ld.slc hT rfl hz rfl) rfl ?_)))
 refine OT.U hT 3 rfl (.split 13 rfl (fun tE=> ?_) (fun tE=> ?_))
 .
  exact absurd (of_decide_eq_true tE) (by omega)
 .
  refine OT.U hT 8 rfl ?_
  refine OT.aY Tryz.call118 rfl rfl rfl rfl (gL) (fun _ _ h=>by
   obtain⟨rfl,rfl⟩:=h
   exact PP.of ⟨8,H,by rw[bJ (by decide)],by decide,rfl,.inl ⟨rfl,hI⟩⟩ sl) ?_
  rintro CM uu ⟨hb,_⟩
  exact hb.elim
theorem Bd{P:Value}{I:Chunk->Prop}{E:Int->Chunk->Prop}{pg:Pg}(hP:ni Tryz.prog 5 P I E pg){bw:Nat}:∀(f:Nat),∀{st:aG} {vn vc:Value} {H K1 K2:Chunk} {r:List Chunk} {no:Int},ay no->32<=st.1.length+f->st.1.length<=32->st.2.length<=256*st.1.length->I H->Own Go.Sx.cM 1 3 vn st.1 K1->Own aj 8 113 vc st.2 K2->aN Tryz.prog 156 [.pointer (some ⟨bw,0,none⟩),.int .i64 no] (H::[(bw,blk [P,vn,vc] 182 (0,0))]::K1::K2::r) (fun v' hs'=>∃H' zP zQ zR zS g,hs'=H'::[(bw,blk [P,zP,zQ] 182 (0,0))]::zR::zS::r/\v'= .tuple ⟨[]⟩/\aZ pg f no st= .ok g/\Own Go.Sx.cM 1 3 zP g.1 zR/\Own aj 8 113 zQ g.2 zS/\I H') (dW I E (fun e=>aZ pg f no st= .error e) r):=by
 intro f
 induction f with
 |zero=>intro st vn vc H K1 K2 r no _ hf dF _ hI eJ _;exact zf hP (by omega) dF hI eJ
 |succ f ih=>intro st vn vc H K1 K2 r no hno hf dF kX hI eJ pI;exact ze hP ih hno hf dF kX hI eJ pI
theorem zg{P:Value}{I:Chunk->Prop}{E:Int->Chunk->Prop}{pg:Pg}(hP:ni Tryz.prog 5 P I E pg){bw:Nat}{H:Chunk}{r:List Chunk}{no:Int}(hno:ay no)(hI:I H):aN Tryz.prog 156 [.pointer (some ⟨bw,0,none⟩),.int .i64 no] (H::[(bw,blk [P,.slice none 0 0,.slice none 0 0] 182 (0,0))]::r) (fun v' hs'=>∃H' zP zQ zR zS g,hs'=H'::[(bw,blk [P,zP,zQ] 182 (0,0))]::zR::zS::r/\v'= .tuple ⟨[]⟩/\aZ pg 32 no ([],[])= .ok g/\Own Go.Sx.cM 1 3 zP g.1 zR/\Own aj 8 113 zQ g.2 zS/\I H') (dW I E (fun e=>aZ pg 32 no ([],[])= .error e) r):=
 aN.perm (hs':=H::[(bw,blk [P,.slice none 0 0,.slice none 0 0] 182 (0,0))]::[]::[]::r) (List.Perm.of_eq rfl) (Bd hP 32 (st:=([],[])) hno (by simp) (by simp) (by simp) hI Own.nil Own.nil)
end Go.Proofs.YtihpkgmfkbkffaaGreat.Sx
end
section
namespace Go.Proofs.YtihpkgmfkbkffaaGreat.Sx
open Go Go.Sx Go.Pl
variable[au]
set_option maxHeartbeats 2000000 in
set_option maxRecDepth 100000 in
theorem I0{P:Value}{I:Chunk->Prop}{E:Int->Chunk->Prop}{pg:Pg}{H:Chunk}{r:List Chunk}(hP:ni Tryz.prog 5 P I E pg)(hI:I H){A:Chunk}{bt bl bw:Nat}:aN Tryz.prog 155 [.pointer (some ⟨bt,0,none⟩),.pointer (some ⟨bl,0,none⟩)] (A::[(bt,blk [P] 107 (0,0))]::[(bl,blk [.pointer (some ⟨bw,0,none⟩)] 178 (0,0))]::[(bw,blk [P,.slice none 0 0,.slice none 0 0] 182 (0,0))]::H::r) (fun _ hs'=>∃dF,hs'=A::dF/\((∃g vn vc K1 K2 H',fB pg= .ok g/\Own Go.Sx.cM 1 3 vn g.1 K1/\Own aj 8 113 vc g.2 K2/\I H'/\dF=[(bt,blk [P] 107 (0,0))]::[(bl,blk [.pointer (some ⟨bw,0,none⟩)] 178 (0,0))]::[(bw,blk [P,vn,vc] 182 (0,0))]::K1::K2::H'::r)\/∃H',fB pg= .ok ([],[])/\I H'/\dF=[(bt,blk [P] 107 (0,0))]::[(bl,blk [.pointer (some ⟨bw,0,none⟩)] 178 (0,0))]::[(bw,blk [P,.slice none 0 0,.slice none 0 0] 182 (0,0))]::H'::r)) (fun v' hs'=>∃e dF,hs'=A::dF/\v'=ta e/\e≠0/\∃H',dF=[(bl,blk [.pointer (some ⟨bw,0,none⟩)] 178 (0,0))]::H'::r/\((fB pg= .error e/\I H')\/∃e0,E e0 H')):=by
 refine aN.enter 10 Tryz.func155 rfl Tryz.ntmps155 rfl ?_
 refine TT.seq (.region (.load rfl rfl (Ld.one hT rfl hz rfl) rfl ?_))
 refine OT.aY Tryz.call94 rfl rfl rfl rfl (aN.pull pl (rE hP hI)) (fun _ _ h=>by
  obtain⟨e,H',rfl,he,rfl,⟨h1,h2⟩|⟨e0,h2⟩⟩:=h
  . exact PP.of ⟨e,_,rfl,rfl,he,H',rfl,.inl ⟨sq h1,h2⟩⟩ sl
  . exact PP.of ⟨e,_,rfl,rfl,he,H',rfl,.inr ⟨e0,h2⟩⟩ sl) ?_
 rintro Qw NC ⟨H1,no,rfl,rfl,fX,j3⟩
 have mN:=f_ j3
 refine OT.U hT 1 rfl (.nil (.seq (.seq (.region (.U hT 2 rfl (.nil (.seq (.cond rfl (fun c6=> ?_) (fun c6=> ?_)))))))))
 .
  have c6:no≠0:=by simpa using c6
  have mN:=mN.resolve_left c6
  refine TT.region (.load rfl rfl (Ld.one hT rfl hz rfl) rfl ?_)
  refine OT.U hT 1 rfl ?_
  refine OT.aY Tryz.call156 rfl rfl rfl rfl (aN.weaken sl (zg (bw:=bw) (r:=A::[(bt,blk [P] 107 (0,0))]::[(bl,blk [.pointer (some ⟨bw,0,none⟩)] 178 (0,0))]::r) hP mN fX)) (fun _ _ h=>by
   obtain⟨e,H',rfl,he,rfl,⟨h1,h2⟩|⟨e0,h2⟩⟩:=h
   . exact PP.of ⟨e,_,rfl,rfl,he,H',rfl,.inl ⟨(by rw[oA j3 c6];exact h1),h2⟩⟩ sl
   . exact PP.of ⟨e,_,rfl,rfl,he,H',rfl,.inr ⟨e0,h2⟩⟩ sl) ?_
  rintro J3 zF ⟨H2,vn,vc,K1,K2,g,rfl,rfl,qV,eJ,pI,dU⟩
  refine OT.nil (.jm (rs:=[]) [] (A::[(bt,blk [P] 107 (0,0))]::[(bl,blk [.pointer (some ⟨bw,0,none⟩)] 178 (0,0))]::[(bw,blk [P,vn,vc] 182 (0,0))]::K1::K2::H2::r) rfl .nil sl ?_)
  try dsimp only[one]
  exact⟨_,rfl,.inl ⟨g,vn,vc,K1,K2,H2,by rw[oA j3 c6];exact qV,eJ,pI,dU,rfl⟩⟩
 .
  have c6:no=0:=by simpa using c6
  refine TT.skip (.jm (rs:=[]) [] (A::[(bt,blk [P] 107 (0,0))]::[(bl,blk [.pointer (some ⟨bw,0,none⟩)] 178 (0,0))]::[(bw,blk [P,.slice none 0 0,.slice none 0 0] 182 (0,0))]::H1::r) rfl .nil sl ?_)
  try dsimp only[one]
  exact⟨_,rfl,.inr ⟨H1,mH j3 c6,fX,rfl⟩⟩
set_option maxHeartbeats 2000000 in
set_option maxRecDepth 100000 in
theorem I1{P:Value}{I:Chunk->Prop}{E:Int->Chunk->Prop}{pg:Pg}{H:Chunk}{r:List Chunk}(hP:ni Tryz.prog 5 P I E pg)(hI:I H):aA Tryz.prog 110 [P] (H::r) (fun v' hs'=>(∃bw,v'= .tuple ⟨[.pointer (some ⟨bw,0,none⟩),.int .i64 0]⟩/\((∃g vn vc K1 K2 H',fB pg= .ok g/\Own Go.Sx.cM 1 3 vn g.1 K1/\Own aj 8 113 vc g.2 K2/\I H'/\hs'=[(bw,blk [P,vn,vc] 182 (0,0))]::K1::K2::H'::r)\/∃H',fB pg= .ok ([],[])/\I H'/\hs'=[(bw,blk [P,.slice none 0 0,.slice none 0 0] 182 (0,0))]::H'::r))\/∃(p:Nat) (e:Int) (H':Chunk),v'= .tuple ⟨[.pointer (some ⟨p,0,none⟩),.int .i64 e]⟩/\e≠0/\hs'=H'::r/\((fB pg= .error e/\I H')\/∃e0,E e0 H')):=by
 refine aA.enter 13 Tryz.func110 rfl Tryz.ntmps110 rfl ?_
 obtain⟨ti,ui,Nb⟩:=hP.iface
 subst Nb
 refine TT.seq (.region (.box rfl rfl rfl (fun b_1=> ?_)))
 refine OT.U hT 2 rfl (.nil (.seq (.seq (.region (.load rfl rfl (Ld.one hT rfl hz rfl) rfl ?_)))))
 refine OT.build hT rfl Tryz.zeroValue182 rfl rfl rfl rfl (.box rfl rfl rfl (fun fH=> ?_))
 refine OT.alloc Tryz.zeroValue178 rfl rfl (fun nW=> ?_)
 refine OT.ag hT rfl rfl rfl rfl pl rfl rfl rfl (.inl (Nat.le_refl _)) ?_
 refine OT.nil (.seq (.seq (.region (.U hT 1 rfl (.call Tryz.call84 rfl rfl rfl rfl ((mL (N:=fun _ dF=>((∃g vn vc K1 K2 H',fB pg= .ok g/\Own Go.Sx.cM 1 3 vn g.1 K1/\Own aj 8 113 vc g.2 K2/\I H'/\dF=[(b_1,blk [.iface ti ui] 107 (0,0))]::[(nW,blk [.pointer (some ⟨fH,0,none⟩)] 178 (0,0))]::[(fH,blk [.iface ti ui,vn,vc] 182 (0,0))]::K1::K2::H'::r)\/∃H',fB pg= .ok ([],[])/\I H'/\dF=[(b_1,blk [.iface ti ui] 107 (0,0))]::[(nW,blk [.pointer (some ⟨fH,0,none⟩)] 178 (0,0))]::[(fH,blk [.iface ti ui,.slice none 0 0,.slice none 0 0] 182 (0,0))]::H'::r)) (E:=fun e dF=>e≠0/\∃H',dF=[(nW,blk [.pointer (some ⟨fH,0,none⟩)] 178 (0,0))]::H'::r/\((fB pg= .error e/\I H')\/∃e0,E e0 H')) Tryz.call155 (fun A=>aN.weaken sl (I0 (A:=A) (bt:=b_1) (bl:=nW) (bw:=fH) hP hI)))) ?_)))))
 rintro nZ jF (⟨rfl,_,⟨g,vn,vc,K1,K2,H',lX,eJ,pI,zy,rfl⟩|⟨H',lX,zy,rfl⟩⟩|⟨e,rfl,he,H',rfl,mX⟩)
 .
  refine OT.U hT 1 rfl (.nil (.seq (.seq (.region (.load rfl rfl (Ld.one hT rfl hz rfl) rfl ?_)))))
  refine OT.U hT 3 rfl (.nil (.seq (.ret (.of (rs:=[.tmp 2,.tmp 3]) [_,_] ([(fH,blk [.iface ti ui,vn,vc] 182 (0,0))]::K1::K2::H'::r) rfl (.tmp rfl (.tmp rfl .nil)) sl ?_))))
  try dsimp only[one]
  exact .inl ⟨fH,rfl,.inl ⟨g,vn,vc,K1,K2,H',lX,eJ,pI,zy,rfl⟩⟩
 .
  refine OT.U hT 1 rfl (.nil (.seq (.seq (.region (.load rfl rfl (Ld.one hT rfl hz rfl) rfl ?_)))))
  refine OT.U hT 3 rfl (.nil (.seq (.ret (.of (rs:=[.tmp 2,.tmp 3]) [_,_] ([(fH,blk [.iface ti ui,.slice none 0 0,.slice none 0 0] 182 (0,0))]::H'::r) rfl (.tmp rfl (.tmp rfl .nil)) sl ?_))))
  try dsimp only[one]
  exact .inl ⟨fH,rfl,.inr ⟨H',lX,zy,rfl⟩⟩
 .
  refine OT.U hT 1 rfl (.nil (.seq (.seq (.region (.load rfl rfl (Ld.one hT rfl hz rfl) rfl ?_)))))
  refine OT.U hT 3 rfl (.nil (.seq (.ret (.of (rs:=[.tmp 2,.tmp 3]) [_,_] (H'::r) rfl (.tmp rfl (.tmp rfl .nil)) sl ?_))))
  try dsimp only[one]
  exact .inr ⟨_,e,H',rfl,he,rfl,mX⟩
theorem Fu{P:Value}{I:Chunk->Prop}{E:Int->Chunk->Prop}{pg:Pg}{H:Chunk}{r:List Chunk}(hP:ni Tryz.prog 5 P I E pg)(hI:I H):aA Tryz.prog 110 [P] (H::r) (fun v' hs'=>(∃bw g vn vc K1 K2 H',v'= .tuple ⟨[.pointer (some ⟨bw,0,none⟩),.int .i64 0]⟩/\fB pg= .ok g/\Own Go.Sx.cM 1 3 vn g.1 K1/\Own aj 8 113 vc g.2 K2/\I H'/\hs'=[(bw,blk [P,vn,vc] 182 (0,0))]::K1::K2::H'::r)\/∃(p:Nat) (e:Int) (H':Chunk),v'= .tuple ⟨[.pointer (some ⟨p,0,none⟩),.int .i64 e]⟩/\e≠0/\hs'=H'::r/\((fB pg= .error e/\I H')\/∃e0,E e0 H')):=by
 refine(I1 hP hI).zW ?_
 rintro v' dF (⟨bw,rfl,⟨g,vn,vc,K1,K2,H',lX,eJ,pI,zy,rfl⟩|⟨H',lX,zy,rfl⟩⟩|h)
 . exact⟨_,.inl ⟨bw,g,vn,vc,K1,K2,H',rfl,lX,eJ,pI,zy,rfl⟩,List.Perm.refl _⟩
 . exact⟨_,.inl ⟨bw,([],[]),_,_,[],[],H',rfl,lX,Own.nil,Own.nil,zy,rfl⟩,List.Perm.of_eq rfl⟩
 . exact⟨_,.inr h,List.Perm.refl _⟩
end Go.Proofs.YtihpkgmfkbkffaaGreat.Sx
end
section
namespace Go.Sx
open Go Go.Sort
variable[au]
theorem Mem.holds{w:World}{b:Nat}{pre sp:List Value}{xs:List Int}{e:Nat}{fr:Nat×Nat}{r:List Chunk}
 (hm:Mem ([(b,blk (pre++xs.map (Value.int .i64)++sp) e fr)]::r) w)(ht:fy (pre++xs.map (Value.int .i64)++sp) fr):Holds (Value.int .i64) w b pre.length xs.toArray:=by
 intro j hj
 rw[List.size_toArray]at hj
 have hb:=hm.heap (b:=b) Has.one
 constructor
 . rw[hm.cell (b:=b) Has.one (pre.length+j)]
   rw[List.append_assoc,List.getElem?_append_right (by omega),List.getElem?_append_left (by rw[List.length_map];omega),List.getElem?_map]
   rw[show pre.length+j-pre.length=j by omega,List.getElem?_eq_getElem hj,Option.map_some,getElem!_pos xs.toArray j (by rw[List.size_toArray];omega)]
   rfl
 . simp only[World.frozen?,hb]
   rcases ht with ht|ht
   . simp;omega
   . simp only[List.length_append,List.length_map]at ht
     simp;omega
end Go.Sx
end
section
namespace Go.Proofs.YtihpkgmfkbkffaaGreat.Sx
open Go Go.Sx Go.Pl
variable[au]
set_option maxHeartbeats 2000000 in
set_option maxRecDepth 100000 in
theorem Cy{P:Value}{I:Chunk->Prop}{E:Int->Chunk->Prop}{pg:Pg}{H:Chunk}{r:List Chunk}(hP:ni Tryz.prog 5 P I E pg)(hI:I H){s t:ByteArray}:aA Tryz.prog 60 [P,.string s,.string t] (H::r) (fun v' hs'=>(∃H' K v g,v'= .tuple ⟨[v,.int .i64 0]⟩/\hs'=H'::K::r/\fB pg= .ok g/\Own aj 8 113 v (g.2.filter (fun c=>bW c.key s t)) K/\I H')\/∃e H',v'= .tuple ⟨[.slice none 0 0,.int .i64 e]⟩/\e≠0/\hs'=H'::r/\((fB pg= .error e/\I H')\/∃e0,E e0 H')):=by
 refine aA.enter 41 Tryz.func60 rfl Tryz.ntmps60 rfl ?_
 refine TT.seq (.region (.U hT 2 rfl (.nil (.seq (.seq (.region (.U hT 1 rfl (.call Tryz.call110 rfl rfl rfl rfl (Fu hP hI) ?_))))))))
 rintro CP uw (⟨bw,g,vn,vc,K1,K2,H',rfl,lX,eJ,pI,zy,rfl⟩|⟨p,e,H',rfl,he,rfl,mX⟩)
 .
  obtain⟨an,cn,e1⟩:=(eJ.row (hs:=[])).len
  obtain⟨ac,cc,e2⟩:=(pI.row (hs:=[])).len
  subst e1 e2
  have TN:=oN lX
  refine OT.U hT 5 rfl (.nil (.seq (.seq (.seq (.region (.U hT 2 rfl (.nil (.seq (.cond rfl (fun zN=> ?_) (fun zN=> ?_))))))))))
  .
   exact absurd zN (by decide)
  .
   refine TT.skip (.seq (.seq (.region (.U hT 1 rfl (.nil (.seq (.seq (.seq (.region (.U hT 3 rfl (.load rfl rfl (Ld.slc hT rfl hz rfl) rfl ?_)))))))))))
   refine OT.U hT 2 rfl (.nil (.seq (.block (.loop (ι:=Nat×Value×Chunk) (fun j=>(j.1)<=g.2.length/\Own aj 8 113 (j.2.1) ((g.2.take (j.1)).filter (fun c=>bW c.key s t)) (j.2.2)) (fun j=>g.2.length-(j.1)) (fun j=>[(1,.string s),(2,.string t),(10,(j.2.1)),(24,.slice ac g.2.length cc),(25,.int .i64 (g.2.length:Nat)),(26,.int .i64 ((j.1):Nat))]) (fun j=>(j.2.2)::[(bw,blk [P,(.slice an g.1.length cn),(.slice ac g.2.length cc)] 182 (0,0))]::K1::K2::H'::r) (0,.slice none 0 0,[]) ?_ (aa.cons rfl (aa.cons rfl (aa.cons rfl (aa.cons rfl (aa.cons rfl (aa.cons rfl (aa.nil _))))))) (.empty sl) ?_))))
   . dsimp only
     exact⟨Nat.zero_le _,Own.nil⟩
   rintro⟨i,v,K⟩ hI
   dsimp only at hI
   obtain⟨hi,qA⟩:=hI
   show TT _ _ _ [(1,.string s),(2,.string t),(10,v),(24,.slice ac g.2.length cc),(25,.int .i64 (g.2.length:Nat)),(26,.int .i64 (i:Nat))] (K::[(bw,blk [P,(.slice an g.1.length cn),(.slice ac g.2.length cc)] 182 (0,0))]::K1::K2::H'::r)
   refine TT.seq (.region (.U hT 1 rfl (.nil (.seq (.seq (.cond rfl (fun nV=> ?_) (fun nV=> ?_)))))))
   .
    have nV:=of_decide_eq_true nV
    obtain⟨x,hx⟩:=nth (l:=g.2) (i:=i) (by omega)
    have hfl:=List.length_filter_le (fun c=>bW c.key s t) (g.2.take i)
    have BN:=List.length_take_le i g.2
    refine TT.skip (.seq (.seq (.block (.seq (.region (.index hT rfl rfl rfl rfl pI.row.there.there.there (by omega) (by rw[Int.toNat_natCast];exact hx) rfl (fun Pq Ap=> ?_)))))))
    refine OT.load rfl rfl (Ap.cO hT rfl) rfl (.alloc Tryz.zeroValue113 rfl rfl (fun NZ=> ?_))
    refine OT.ag hT rfl rfl rfl rfl pl rfl rfl rfl (.inl (Nat.le_refl _)) ?_
    refine OT.nil (.seq (.seq (.region (.U hT 1 rfl (.load rfl rfl (Ld.one hT rfl hz rfl) rfl ?_)))))
    refine OT.U hT 2 rfl (.call Tryz.call111 rfl rfl rfl rfl (EW) ?_)
    rintro Hv BA ⟨rfl,rfl⟩
    refine OT.nil (.seq (.cond rfl (fun nq=> ?_) (fun nq=> ?_)))
    .
     refine TT.region (.U hT 1 rfl (.load rfl rfl (Ld.af hT rfl hz rfl) rfl ?_))
     refine OT.buildSlice (enc:=aj) (xs:=[x]) (gQ:=[.tmp 36]) jE rfl rfl rfl rfl rfl (by simp[Value.cells];rfl) (fun _ _=>rfl) rfl (by decide) rfl (fun ED NP E1=> ?_)
     refine OT.append hT jE rfl rfl rfl rfl pl qA (E1.row) (gl _) (by simp only[List.length_singleton];omega) rfl (fun xe SH Pt=> ?_)
     refine OT.U hT 1 rfl (.nil (.blk (.seq (.region (.U hT 2 rfl (.nil (.loop (i+1,xe,SH) ?_ ?_ (aa.cons rfl (aa.cons rfl (aa.cons rfl (aa.cons rfl (aa.cons rfl (aa.aM rfl (by(try dsimp only);exact(int_eq (by rw[wrap_i64 (by omega) (by omega)];omega))) (aa.nil _))))))) sl)))))))
     . dsimp only
       exact⟨by omega,by rw[List.take_add_one,hx,Option.toList_some,List.filter_append,show List.filter (fun c=>bW c.key s t) [x]=[x] by simp[nq]];exact Pt⟩
     . dsimp only
       omega
    .
     refine TT.skip (.blk (.seq (.region (.U hT 2 rfl (.nil (.loop (i+1,v,K) ?_ ?_ (aa.cons rfl (aa.cons rfl (aa.cons rfl (aa.cons rfl (aa.cons rfl (aa.aM rfl (by(try dsimp only);exact(int_eq (by rw[wrap_i64 (by omega) (by omega)];omega))) (aa.nil _))))))) sl))))))
     . dsimp only
       exact⟨by omega,by rw[List.take_add_one,hx,Option.toList_some,List.filter_append,show List.filter (fun c=>bW c.key s t) [x]=[] by simp[nq],List.append_nil];exact qA⟩
     . dsimp only
       omega
   .
    have nV:=of_decide_eq_false nV
    obtain rfl:i=g.2.length:=by omega
    rw[List.take_of_length_le (Nat.le_refl _)]at qA
    refine TT.exit (.seq (.loop (.here (.seq (.seq (.region (.U hT 3 rfl (.nil (.seq (.ret (.of (rs:=[.tmp 6,.tmp 7]) [_,_] (H'::K::r) rfl (.tmp rfl (.tmp rfl .nil)) sl ?_)))))))))))
    try dsimp only[one]
    exact .inl ⟨H',K,v,g,rfl,rfl,lX,qA,zy⟩
 .
  refine OT.U hT 5 rfl (.nil (.seq (.seq (.seq (.region (.U hT 2 rfl (.nil (.seq (.cond rfl (fun zN=> ?_) (fun zN=> ?_))))))))))
  .
   refine TT.seq (.region (.U hT 3 rfl (.nil (.seq (.ret (.of (rs:=[.tmp 6,.tmp 7]) [_,_] (H'::r) rfl (.tmp rfl (.tmp rfl .nil)) sl ?_))))))
   try dsimp only[one]
   exact .inr ⟨e,H',rfl,he,rfl,mX⟩
  .
   exact absurd zN (by simpa using he)
end Go.Proofs.YtihpkgmfkbkffaaGreat.Sx
end
section
namespace Go.Proofs.YtihpkgmfkbkffaaGreat.Sx
open Go Go.Sx Go.Pl
variable[au]
set_option maxHeartbeats 6000000 in
set_option maxRecDepth 100000 in
theorem DX{P:Value}{I:Chunk->Prop}{E:Int->Chunk->Prop}{pg:Pg}(hP:ni Tryz.prog 5 P I E pg){f:Nat}(hf:f<64)(ih:∀{lo hi:ByteArray} {top:Bool} {H:Chunk} {r:List Chunk} {no:Int},ay no->Deep pg f no->I H->aN Tryz.prog 116 [P,.int .i64 no,.agg ⟨[.string lo,.string hi]⟩,.bool top] (H::r) (fun v' hs'=>∃H' d,hs'=H'::r/\v'= .int .i64 d/\dP pg f no lo hi top= .ok d/\I H'/\0<=d/\d<((f:Nat):Int)) (dW I E (fun e=>dP pg f no lo hi top= .error e) r)){lo hi:ByteArray}{top:Bool}{H:Chunk}{r:List Chunk}{no:Int}(hno:ay no)(Q_:Deep pg (f+1) no)(hI:I H):aN Tryz.prog 116 [P,.int .i64 no,.agg ⟨[.string lo,.string hi]⟩,.bool top] (H::r) (fun v' hs'=>∃H' d,hs'=H'::r/\v'= .int .i64 d/\dP pg (f+1) no lo hi top= .ok d/\I H'/\0<=d/\d<(((f+1):Nat):Int)) (dW I E (fun e=>dP pg (f+1) no lo hi top= .error e) r):=by
 refine aN.enter 91 Tryz.func116 rfl Tryz.ntmps116 rfl ?_
 refine TT.seq (.region (.box rfl rfl rfl (fun eG=> ?_)))
 refine OT.U hT 1 rfl (.nil (.seq (.seq (.region (.U hT 2 rfl ?_)))))
 refine OT.aY Tryz.call95 rfl rfl rfl rfl (aN.pull pl (mm hP hI (iw hno))) (fun _ _ h=>by
  obtain⟨e,H',rfl,he,rfl,⟨h1,h2⟩|h2⟩:=h
  . exact PP.of ⟨e,H',rfl,he,rfl,.inl ⟨AN h1,h2⟩⟩ sl
  . exact PP.of ⟨e,H',rfl,he,rfl,.inr h2⟩ sl) ?_
 rintro jY iE ⟨H2,K,cs,n,rfl,rfl,hN,dU,hrd⟩
 have hni:=(fU hrd).nd
 have hnc:=hni.cells
 have hnk:=hni.keys
 have hnd:=hni.kids
 have PU:=Q_ n hrd
 obtain⟨vc,vk,vi,KA,KB,KC,rfl,rfl,iF,iG,nX⟩:=hN.is
 obtain⟨ac,cc,e1⟩:=(iF.row (hs:=[])).len
 obtain⟨ak,ck,e2⟩:=(iG.row (hs:=[])).len
 obtain⟨ai,ci,e3⟩:=(nX.row (hs:=[])).len
 subst e1 e2 e3
 refine OT.perm iu (.alloc Tryz.zeroValue159 rfl rfl (fun gR=> ?_))
 refine OT.ag hT rfl rfl rfl rfl pl rfl rfl rfl (.inl (Nat.le_refl _)) ?_
 refine OT.nil (.seq (.seq (.seq (.region (.U hT 1 rfl (.load rfl rfl (Ld.one hT rfl hz rfl) rfl ?_))))))
 refine OT.nil (.seq (.cond rfl (fun eF=> ?_) (fun eF=> ?_)))
 .
  have hlf:n.leaf=true:=eF
  refine TT.seq (.region (.U hT 2 rfl (.split 23 rfl (fun G7=> ?_) (fun G7=> ?_))))
  .
   refine OT.U hT 5 rfl (.call Tryz.call118 rfl rfl rfl rfl (dr) ?_)
   rintro vv qt ⟨rfl,rfl⟩
   have h2:top=true\/0<n.cells.length:= .inl G7
   refine OT.nil (.seq (.seq (.seq (.region (.U hT 1 rfl (.load rfl rfl (Ld.slc hT rfl hz rfl) rfl ?_))))))
   refine OT.U hT 2 rfl (.nil (.seq (.block (.loop (ι:=Nat) (fun j=>(j)<=n.cells.length/\∀c∈n.cells.take (j),bW c.key lo hi=true) (fun j=>n.cells.length-(j)) (fun j=>[(6,.pointer (some ⟨eG,0,none⟩)),(31,.slice ac n.cells.length cc),(32,.int .i64 (n.cells.length:Nat)),(33,.int .i64 ((j):Nat))]) (fun j=>[(gR,blk [.bool n.leaf,.slice ac n.cells.length cc,.slice ak n.keys.length ck,.slice ai n.kids.length ci] 159 (0,0))]::H2::KA::KB::KC::[(eG,blk [.string lo,.string hi] 186 (0,0))]::r) (0) ?_ (aa.cons rfl (aa.cons rfl (aa.cons rfl (aa.cons rfl (aa.nil _))))) sl ?_))))
   . exact⟨Nat.zero_le _,fun c hc=>by cases hc⟩
   rintro i ⟨hil,hin⟩
   show TT _ _ _ [(6,.pointer (some ⟨eG,0,none⟩)),(31,.slice ac n.cells.length cc),(32,.int .i64 (n.cells.length:Nat)),(33,.int .i64 (i:Nat))] ([(gR,blk [.bool n.leaf,.slice ac n.cells.length cc,.slice ak n.keys.length ck,.slice ai n.kids.length ci] 159 (0,0))]::H2::KA::KB::KC::[(eG,blk [.string lo,.string hi] 186 (0,0))]::r)
   refine TT.seq (.region (.U hT 1 rfl (.nil (.seq (.seq (.cond rfl (fun nq=> ?_) (fun nq=> ?_)))))))
   .
    have nq:=of_decide_eq_true nq
    obtain⟨x,hx⟩:=nth (l:=n.cells) (i:=i) (by omega)
    refine TT.skip (.seq (.seq (.block (.seq (.region (.index hT rfl rfl rfl rfl iF.row.there.there (by omega) (by rw[Int.toNat_natCast];exact hx) rfl (fun xS iL=> ?_)))))))
    refine OT.load rfl rfl (iL.cO hT rfl) rfl (.alloc Tryz.zeroValue113 rfl rfl (fun oa=> ?_))
    refine OT.ag hT rfl rfl rfl rfl pl rfl rfl rfl (.inl (Nat.le_refl _)) ?_
    refine OT.nil (.seq (.region (.U hT 1 rfl (.load rfl rfl (Ld.one hT rfl hz rfl) rfl ?_))))
    refine OT.U hT 1 rfl (.load rfl rfl (Ld.one hT rfl hz rfl) rfl ?_)
    refine OT.U hT 1 rfl (.load rfl rfl (Ld.one hT rfl hz rfl) rfl ?_)
    refine OT.call Tryz.call111 rfl rfl rfl rfl (EW) ?_
    rintro Hy EZ ⟨rfl,rfl⟩
    refine OT.aY Tryz.call118 rfl rfl rfl rfl (bg) (fun _ _ h=>by
     obtain⟨hb,rfl,rfl⟩:=h
     exact PP.of ⟨8,H2,by rw[bJ (by decide)],by decide,rfl,.inl ⟨sY hrd hlf h2 (List.mem_of_getElem? hx) hb,dU⟩⟩ sl) ?_
    rintro CN uv ⟨k3,rfl,rfl⟩
    refine OT.nil (.blk (.seq (.region (.U hT 2 rfl (.nil (.loop (i+1) ?_ ?_ (aa.cons rfl (aa.cons rfl (aa.cons rfl (aa.aM rfl (by(try dsimp only);exact(int_eq (by rw[wrap_i64 (by omega) (by omega)];omega))) (aa.nil _))))) sl))))))
    . refine⟨by omega,fun c hc=> ?_⟩
      rw[List.take_add_one,hx]at hc
      rcases List.mem_append.1 hc with hc|hc
      . exact hin c hc
      . rw[Option.toList_some,List.mem_singleton]at hc
        subst hc;exact k3
    . omega
   .
    have nq:=of_decide_eq_false nq
    obtain rfl:i=n.cells.length:=by omega
    rw[List.take_of_length_le (Nat.le_refl _)]at hin
    refine TT.exit (.seq (.loop (.here (.seq (.seq (.region (.U hT 1 rfl (.nil (.seq (.ret (.jm (rs:=[.tmp 8]) [_] (H2::r) rfl (.tmp rfl .nil) sl ?_)))))))))))
    try dsimp only[one]
    exact⟨H2,0,rfl,rfl,lP hrd hlf h2 hin,dU,by omega,by omega⟩
  .
   refine OT.U hT 1 rfl (.load rfl rfl (Ld.slc hT rfl hz rfl) rfl ?_)
   refine OT.U hT 3 rfl ?_
   refine OT.aY Tryz.call118 rfl rfl rfl rfl (bg) (fun _ _ h=>by
    obtain⟨hb,rfl,rfl⟩:=h
    have hb:¬0<n.cells.length:=by have:=of_decide_eq_false hb;omega
    exact PP.of ⟨8,H2,by rw[bJ (by decide)],by decide,rfl,.inl ⟨yU hrd hlf (fun h=>h.elim (fun e=>by rw[G7]at e;cases e) hb),dU⟩⟩ sl) ?_
   rintro vv qt ⟨hb,rfl,rfl⟩
   have h2:top=true\/0<n.cells.length:= .inr (by have:=of_decide_eq_true hb;omega)
   refine OT.nil (.seq (.seq (.seq (.region (.U hT 1 rfl (.load rfl rfl (Ld.slc hT rfl hz rfl) rfl ?_))))))
   refine OT.U hT 2 rfl (.nil (.seq (.block (.loop (ι:=Nat) (fun j=>(j)<=n.cells.length/\∀c∈n.cells.take (j),bW c.key lo hi=true) (fun j=>n.cells.length-(j)) (fun j=>[(6,.pointer (some ⟨eG,0,none⟩)),(31,.slice ac n.cells.length cc),(32,.int .i64 (n.cells.length:Nat)),(33,.int .i64 ((j):Nat))]) (fun j=>[(gR,blk [.bool n.leaf,.slice ac n.cells.length cc,.slice ak n.keys.length ck,.slice ai n.kids.length ci] 159 (0,0))]::H2::KA::KB::KC::[(eG,blk [.string lo,.string hi] 186 (0,0))]::r) (0) ?_ (aa.cons rfl (aa.cons rfl (aa.cons rfl (aa.cons rfl (aa.nil _))))) sl ?_))))
   . exact⟨Nat.zero_le _,fun c hc=>by cases hc⟩
   rintro i ⟨hil,hin⟩
   show TT _ _ _ [(6,.pointer (some ⟨eG,0,none⟩)),(31,.slice ac n.cells.length cc),(32,.int .i64 (n.cells.length:Nat)),(33,.int .i64 (i:Nat))] ([(gR,blk [.bool n.leaf,.slice ac n.cells.length cc,.slice ak n.keys.length ck,.slice ai n.kids.length ci] 159 (0,0))]::H2::KA::KB::KC::[(eG,blk [.string lo,.string hi] 186 (0,0))]::r)
   refine TT.seq (.region (.U hT 1 rfl (.nil (.seq (.seq (.cond rfl (fun nq=> ?_) (fun nq=> ?_)))))))
   .
    have nq:=of_decide_eq_true nq
    obtain⟨x,hx⟩:=nth (l:=n.cells) (i:=i) (by omega)
    refine TT.skip (.seq (.seq (.block (.seq (.region (.index hT rfl rfl rfl rfl iF.row.there.there (by omega) (by rw[Int.toNat_natCast];exact hx) rfl (fun xS iL=> ?_)))))))
    refine OT.load rfl rfl (iL.cO hT rfl) rfl (.alloc Tryz.zeroValue113 rfl rfl (fun oa=> ?_))
    refine OT.ag hT rfl rfl rfl rfl pl rfl rfl rfl (.inl (Nat.le_refl _)) ?_
    refine OT.nil (.seq (.region (.U hT 1 rfl (.load rfl rfl (Ld.one hT rfl hz rfl) rfl ?_))))
    refine OT.U hT 1 rfl (.load rfl rfl (Ld.one hT rfl hz rfl) rfl ?_)
    refine OT.U hT 1 rfl (.load rfl rfl (Ld.one hT rfl hz rfl) rfl ?_)
    refine OT.call Tryz.call111 rfl rfl rfl rfl (EW) ?_
    rintro Hy EZ ⟨rfl,rfl⟩
    refine OT.aY Tryz.call118 rfl rfl rfl rfl (bg) (fun _ _ h=>by
     obtain⟨hb,rfl,rfl⟩:=h
     exact PP.of ⟨8,H2,by rw[bJ (by decide)],by decide,rfl,.inl ⟨sY hrd hlf h2 (List.mem_of_getElem? hx) hb,dU⟩⟩ sl) ?_
    rintro CN uv ⟨k3,rfl,rfl⟩
    refine OT.nil (.blk (.seq (.region (.U hT 2 rfl (.nil (.loop (i+1) ?_ ?_ (aa.cons rfl (aa.cons rfl (aa.cons rfl (aa.aM rfl (by(try dsimp only);exact(int_eq (by rw[wrap_i64 (by omega) (by omega)];omega))) (aa.nil _))))) sl))))))
    . refine⟨by omega,fun c hc=> ?_⟩
      rw[List.take_add_one,hx]at hc
      rcases List.mem_append.1 hc with hc|hc
      . exact hin c hc
      . rw[Option.toList_some,List.mem_singleton]at hc
        subst hc;exact k3
    . omega
   .
    have nq:=of_decide_eq_false nq
    obtain rfl:i=n.cells.length:=by omega
    rw[List.take_of_length_le (Nat.le_refl _)]at hin
    refine TT.exit (.seq (.loop (.here (.seq (.seq (.region (.U hT 1 rfl (.nil (.seq (.ret (.jm (rs:=[.tmp 8]) [_] (H2::r) rfl (.tmp rfl .nil) sl ?_)))))))))))
    try dsimp only[one]
    exact⟨H2,0,rfl,rfl,lP hrd hlf h2 hin,dU,by omega,by omega⟩
 .
  have hlf:n.leaf=false:=eF
  have hkk:=(hni.ways hlf).1
  refine TT.skip (.seq (.seq (.region (.U hT 1 rfl (.nil (.seq (.seq (.seq (.region (.U hT 1 rfl (.load rfl rfl (Ld.slc hT rfl hz rfl) rfl ?_)))))))))))
  refine OT.U hT 2 rfl (.nil (.seq (.block (.loop (ι:=Nat×Int×Chunk) (fun j=>(j.1)<=n.kids.length/\iX pg f n lo hi (j.1)= .ok (j.2.1)/\I (j.2.2)/\ -1<=(j.2.1)/\(j.2.1)<((f:Nat):Int)) (fun j=>n.kids.length-(j.1)) (fun j=>[(0,P),(6,.pointer (some ⟨eG,0,none⟩)),(9,.pointer (some ⟨gR,0,none⟩)),(12,.int .i64 (j.2.1)),(47,.slice ai n.kids.length ci),(48,.int .i64 (n.kids.length:Nat)),(49,.int .i64 ((j.1):Nat))]) (fun j=>[(gR,blk [.bool n.leaf,.slice ac n.cells.length cc,.slice ak n.keys.length ck,.slice ai n.kids.length ci] 159 (0,0))]::(j.2.2)::KB::KC::[(eG,blk [.string lo,.string hi] 186 (0,0))]::r) (0,(-1:Int),H2) ?_ (aa.cons rfl (aa.cons rfl (aa.cons rfl (aa.cons rfl (aa.cons rfl (aa.cons rfl (aa.cons rfl (aa.nil _)))))))) sl ?_))))
  . dsimp only
    exact⟨Nat.zero_le _,AO,dU,by omega,by omega⟩
  rintro⟨i,d,H3⟩ hI
  dsimp only at hI
  obtain⟨hi2,hk,mV,Qi,X5⟩:=hI
  show TT _ _ _ [(0,P),(6,.pointer (some ⟨eG,0,none⟩)),(9,.pointer (some ⟨gR,0,none⟩)),(12,.int .i64 d),(47,.slice ai n.kids.length ci),(48,.int .i64 (n.kids.length:Nat)),(49,.int .i64 (i:Nat))] ([(gR,blk [.bool n.leaf,.slice ac n.cells.length cc,.slice ak n.keys.length ck,.slice ai n.kids.length ci] 159 (0,0))]::H3::KB::KC::[(eG,blk [.string lo,.string hi] 186 (0,0))]::r)
  refine TT.seq (.region (.U hT 1 rfl (.nil (.seq (.seq (.cond rfl (fun qY=> ?_) (fun qY=> ?_)))))))
  .
   have qY:=of_decide_eq_true qY
   obtain⟨x,hx⟩:=nth (l:=n.kids) (i:=i) (by omega)
   refine TT.skip (.seq (.seq (.block (.seq (.region (.U hT 1 rfl (.index hT rfl rfl rfl rfl nX.row.there.there.there (by omega) (by rw[Int.toNat_natCast];exact hx) rfl (fun UF L7=> ?_))))))))
   refine OT.load rfl rfl (L7.bL hT rfl rfl) rfl (.U hT 2 rfl (.nil (.seq (.seq (.region (.load rfl rfl (Ld.af hT rfl hz rfl) rfl ?_))))))
   refine OT.alloc Tryz.zeroValue186 rfl rfl (fun Sy=> ?_)
   refine OT.ag hT rfl rfl rfl rfl pl rfl rfl rfl (.inl (Nat.le_refl _)) ?_
   refine OT.nil (.seq (.seq (.seq (.region (.U hT 2 rfl (.nil (.seq (.cond rfl (fun Kk=> ?_) (fun Kk=> ?_)))))))))
   .
    have Kk:0<i:=by have:=of_decide_eq_true Kk;omega
    obtain⟨kl,nT⟩:=nth (l:=n.keys) (i:=i-1) (by omega)
    have hlo:=wh (lo:=lo) Kk nT
    refine TT.region (.U hT 1 rfl (.load rfl rfl (Ld.slc hT rfl hz rfl) rfl ?_))
    refine OT.U hT 2 rfl (.index hT rfl rfl rfl rfl iG.row.there.there.there (by rw[wrap_i64 (by omega) (by omega)];omega) (by rw[wrap_i64 (by omega) (by omega),show((i:Int)-1).toNat=i-1 by omega];exact nT) rfl (fun UG L8=> ?_))
    refine OT.load rfl rfl (L8.bL hT rfl rfl) rfl (.U hT 1 rfl (.store hT rfl rfl rfl rfl pl rfl (Nat.le_of_ble_eq_true rfl) rfl (.inl (Nat.le_refl _)) rfl ?_))
    refine OT.nil (.seq (.seq (.seq (.region (.U hT 2 rfl (.load rfl rfl (Ld.slc hT rfl hz rfl) rfl ?_))))))
    refine OT.U hT 2 rfl (.nil (.seq (.cond rfl (fun qZ=> ?_) (fun qZ=> ?_))))
    .
     have qZ:i<n.keys.length:=by have:=of_decide_eq_true qZ;omega
     obtain⟨kh,Nc⟩:=nth (l:=n.keys) (i:=i) (by omega)
     have hhi:=oO (hi:=hi) qZ Nc
     refine TT.region (.U hT 1 rfl (.load rfl rfl (Ld.slc hT rfl hz rfl) rfl ?_))
     refine OT.U hT 1 rfl (.index hT rfl rfl rfl rfl iG.row.there.there.there (by omega) (by rw[Int.toNat_natCast];exact Nc) rfl (fun Pu Aq=> ?_))
     refine OT.load rfl rfl (Aq.bL hT rfl rfl) rfl (.U hT 1 rfl (.store hT rfl rfl rfl rfl pl rfl (Nat.le_of_ble_eq_true rfl) rfl (.inl (Nat.le_refl _)) rfl ?_))
     refine OT.nil (.seq (.seq (.region (.U hT 2 rfl (.load rfl rfl (Ld.af hT rfl hz rfl) rfl ?_)))))
     refine OT.aY Tryz.call116 rfl rfl rfl rfl (aN.pull pl (ih (hni.lE (List.mem_of_getElem? hx)) (PU _ (List.mem_of_getElem? hx)) mV)) (fun _ _ h=>by
      obtain⟨e,H',rfl,he,rfl,⟨h1,h2⟩|h2⟩:=h
      . exact PP.of ⟨e,H',rfl,he,rfl,.inl ⟨(by rw[dn hrd hlf];exact bz (eD (m:=i+1) (by omega) (mI hk hx hlo hhi h1))),h2⟩⟩ sl
      . exact PP.of ⟨e,H',rfl,he,rfl,.inr h2⟩ sl) ?_
     rintro K_ E5 ⟨H4,d2,rfl,rfl,ua,nY,Ra,Rb⟩
     have hkn:=iR hk hx hlo hhi ua
     refine OT.U hT 1 rfl (.nil (.seq (.seq (.region (.U hT 3 rfl (.split 81 rfl (fun rF=> ?_) (fun rF=> ?_)))))))
     .
      refine OT.U hT 4 rfl (.call Tryz.call118 rfl rfl rfl rfl (dr) ?_)
      rintro rK k9 ⟨rfl,rfl⟩
      rw[if_pos (.inl (of_decide_eq_true rF))]at hkn
      refine OT.nil (.seq (.region (.U hT 2 rfl (.nil (.blk (.seq (.region (.U hT 2 rfl (.nil (.loop (i+1,d2,H4) ?_ ?_ (aa.cons rfl (aa.cons rfl (aa.cons rfl (aa.cons rfl (aa.cons rfl (aa.cons rfl (aa.aM rfl (by(try dsimp only);exact(int_eq (by rw[wrap_i64 (by omega) (by omega)];omega))) (aa.nil _)))))))) sl))))))))))
      . dsimp only
        exact⟨by omega,hkn,nY,by omega,by omega⟩
      . dsimp only
        omega
     .
      refine OT.U hT 4 rfl ?_
      refine OT.aY Tryz.call118 rfl rfl rfl rfl (bg) (fun _ _ h=>by
       obtain⟨hb,rfl,rfl⟩:=h
       have hb:¬d2=d:=by simpa using hb
       exact PP.of ⟨8,H4,by rw[bJ (by decide)],by decide,rfl,.inl ⟨(by rw[dn hrd hlf];refine bz (eD (m:=i+1) (by omega) (hkn.trans (if_neg ?_)));exact fun h=>h.elim (of_decide_eq_false rF) hb),nY⟩⟩ sl) ?_
      rintro rK k9 ⟨hb,rfl,rfl⟩
      have hb:d2=d:=by simpa using hb
      rw[if_pos (.inr hb)]at hkn
      refine OT.nil (.seq (.region (.U hT 2 rfl (.nil (.blk (.seq (.region (.U hT 2 rfl (.nil (.loop (i+1,d2,H4) ?_ ?_ (aa.cons rfl (aa.cons rfl (aa.cons rfl (aa.cons rfl (aa.cons rfl (aa.cons rfl (aa.aM rfl (by(try dsimp only);exact(int_eq (by rw[wrap_i64 (by omega) (by omega)];omega))) (aa.nil _)))))))) sl))))))))))
      . dsimp only
        exact⟨by omega,hkn,nY,by omega,by omega⟩
      . dsimp only
        omega
    .
     have qZ:¬i<n.keys.length:=by have:=of_decide_eq_false qZ;omega
     have hhi:=sr (n:=n) (hi:=hi) qZ
     refine TT.skip (.seq (.seq (.region (.U hT 2 rfl (.load rfl rfl (Ld.af hT rfl hz rfl) rfl ?_)))))
     refine OT.aY Tryz.call116 rfl rfl rfl rfl (aN.pull pl (ih (hni.lE (List.mem_of_getElem? hx)) (PU _ (List.mem_of_getElem? hx)) mV)) (fun _ _ h=>by
      obtain⟨e,H',rfl,he,rfl,⟨h1,h2⟩|h2⟩:=h
      . exact PP.of ⟨e,H',rfl,he,rfl,.inl ⟨(by rw[dn hrd hlf];exact bz (eD (m:=i+1) (by omega) (mI hk hx hlo hhi h1))),h2⟩⟩ sl
      . exact PP.of ⟨e,H',rfl,he,rfl,.inr h2⟩ sl) ?_
     rintro K_ E5 ⟨H4,d2,rfl,rfl,ua,nY,Ra,Rb⟩
     have hkn:=iR hk hx hlo hhi ua
     refine OT.U hT 1 rfl (.nil (.seq (.seq (.region (.U hT 3 rfl (.split 81 rfl (fun rF=> ?_) (fun rF=> ?_)))))))
     .
      refine OT.U hT 4 rfl (.call Tryz.call118 rfl rfl rfl rfl (dr) ?_)
      rintro rK k9 ⟨rfl,rfl⟩
      rw[if_pos (.inl (of_decide_eq_true rF))]at hkn
      refine OT.nil (.seq (.region (.U hT 2 rfl (.nil (.blk (.seq (.region (.U hT 2 rfl (.nil (.loop (i+1,d2,H4) ?_ ?_ (aa.cons rfl (aa.cons rfl (aa.cons rfl (aa.cons rfl (aa.cons rfl (aa.cons rfl (aa.aM rfl (by(try dsimp only);exact(int_eq (by rw[wrap_i64 (by omega) (by omega)];omega))) (aa.nil _)))))))) sl))))))))))
      . dsimp only
        exact⟨by omega,hkn,nY,by omega,by omega⟩
      . dsimp only
        omega
     .
      refine OT.U hT 4 rfl ?_
      refine OT.aY Tryz.call118 rfl rfl rfl rfl (bg) (fun _ _ h=>by
       obtain⟨hb,rfl,rfl⟩:=h
       have hb:¬d2=d:=by simpa using hb
       exact PP.of ⟨8,H4,by rw[bJ (by decide)],by decide,rfl,.inl ⟨(by rw[dn hrd hlf];refine bz (eD (m:=i+1) (by omega) (hkn.trans (if_neg ?_)));exact fun h=>h.elim (of_decide_eq_false rF) hb),nY⟩⟩ sl) ?_
      rintro rK k9 ⟨hb,rfl,rfl⟩
      have hb:d2=d:=by simpa using hb
      rw[if_pos (.inr hb)]at hkn
      refine OT.nil (.seq (.region (.U hT 2 rfl (.nil (.blk (.seq (.region (.U hT 2 rfl (.nil (.loop (i+1,d2,H4) ?_ ?_ (aa.cons rfl (aa.cons rfl (aa.cons rfl (aa.cons rfl (aa.cons rfl (aa.cons rfl (aa.aM rfl (by(try dsimp only);exact(int_eq (by rw[wrap_i64 (by omega) (by omega)];omega))) (aa.nil _)))))))) sl))))))))))
      . dsimp only
        exact⟨by omega,hkn,nY,by omega,by omega⟩
      . dsimp only
        omega
   .
    have Kk:¬0<i:=by have:=of_decide_eq_false Kk;omega
    have hlo:=Ce (n:=n) (lo:=lo) Kk
    refine TT.skip (.seq (.seq (.seq (.region (.U hT 2 rfl (.load rfl rfl (Ld.slc hT rfl hz rfl) rfl ?_))))))
    refine OT.U hT 2 rfl (.nil (.seq (.cond rfl (fun qZ=> ?_) (fun qZ=> ?_))))
    .
     have qZ:i<n.keys.length:=by have:=of_decide_eq_true qZ;omega
     obtain⟨kh,Nc⟩:=nth (l:=n.keys) (i:=i) (by omega)
     have hhi:=oO (hi:=hi) qZ Nc
     refine TT.region (.U hT 1 rfl (.load rfl rfl (Ld.slc hT rfl hz rfl) rfl ?_))
     refine OT.U hT 1 rfl (.index hT rfl rfl rfl rfl iG.row.there.there.there (by omega) (by rw[Int.toNat_natCast];exact Nc) rfl (fun Pu Aq=> ?_))
     refine OT.load rfl rfl (Aq.bL hT rfl rfl) rfl (.U hT 1 rfl (.store hT rfl rfl rfl rfl pl rfl (Nat.le_of_ble_eq_true rfl) rfl (.inl (Nat.le_refl _)) rfl ?_))
     refine OT.nil (.seq (.seq (.region (.U hT 2 rfl (.load rfl rfl (Ld.af hT rfl hz rfl) rfl ?_)))))
     refine OT.aY Tryz.call116 rfl rfl rfl rfl (aN.pull pl (ih (hni.lE (List.mem_of_getElem? hx)) (PU _ (List.mem_of_getElem? hx)) mV)) (fun _ _ h=>by
      obtain⟨e,H',rfl,he,rfl,⟨h1,h2⟩|h2⟩:=h
      . exact PP.of ⟨e,H',rfl,he,rfl,.inl ⟨(by rw[dn hrd hlf];exact bz (eD (m:=i+1) (by omega) (mI hk hx hlo hhi h1))),h2⟩⟩ sl
      . exact PP.of ⟨e,H',rfl,he,rfl,.inr h2⟩ sl) ?_
     rintro K_ E5 ⟨H4,d2,rfl,rfl,ua,nY,Ra,Rb⟩
     have hkn:=iR hk hx hlo hhi ua
     refine OT.U hT 1 rfl (.nil (.seq (.seq (.region (.U hT 3 rfl (.split 81 rfl (fun rF=> ?_) (fun rF=> ?_)))))))
     .
      refine OT.U hT 4 rfl (.call Tryz.call118 rfl rfl rfl rfl (dr) ?_)
      rintro rK k9 ⟨rfl,rfl⟩
      rw[if_pos (.inl (of_decide_eq_true rF))]at hkn
      refine OT.nil (.seq (.region (.U hT 2 rfl (.nil (.blk (.seq (.region (.U hT 2 rfl (.nil (.loop (i+1,d2,H4) ?_ ?_ (aa.cons rfl (aa.cons rfl (aa.cons rfl (aa.cons rfl (aa.cons rfl (aa.cons rfl (aa.aM rfl (by(try dsimp only);exact(int_eq (by rw[wrap_i64 (by omega) (by omega)];omega))) (aa.nil _)))))))) sl))))))))))
      . dsimp only
        exact⟨by omega,hkn,nY,by omega,by omega⟩
      . dsimp only
        omega
     .
      refine OT.U hT 4 rfl ?_
      refine OT.aY Tryz.call118 rfl rfl rfl rfl (bg) (fun _ _ h=>by
       obtain⟨hb,rfl,rfl⟩:=h
       have hb:¬d2=d:=by simpa using hb
       exact PP.of ⟨8,H4,by rw[bJ (by decide)],by decide,rfl,.inl ⟨(by rw[dn hrd hlf];refine bz (eD (m:=i+1) (by omega) (hkn.trans (if_neg ?_)));exact fun h=>h.elim (of_decide_eq_false rF) hb),nY⟩⟩ sl) ?_
      rintro rK k9 ⟨hb,rfl,rfl⟩
      have hb:d2=d:=by simpa using hb
      rw[if_pos (.inr hb)]at hkn
      refine OT.nil (.seq (.region (.U hT 2 rfl (.nil (.blk (.seq (.region (.U hT 2 rfl (.nil (.loop (i+1,d2,H4) ?_ ?_ (aa.cons rfl (aa.cons rfl (aa.cons rfl (aa.cons rfl (aa.cons rfl (aa.cons rfl (aa.aM rfl (by(try dsimp only);exact(int_eq (by rw[wrap_i64 (by omega) (by omega)];omega))) (aa.nil _)))))))) sl))))))))))
      . dsimp only
        exact⟨by omega,hkn,nY,by omega,by omega⟩
      . dsimp only
        omega
    .
     have qZ:¬i<n.keys.length:=by have:=of_decide_eq_false qZ;omega
     have hhi:=sr (n:=n) (hi:=hi) qZ
     refine TT.skip (.seq (.seq (.region (.U hT 2 rfl (.load rfl rfl (Ld.af hT rfl hz rfl) rfl ?_)))))
     refine OT.aY Tryz.call116 rfl rfl rfl rfl (aN.pull pl (ih (hni.lE (List.mem_of_getElem? hx)) (PU _ (List.mem_of_getElem? hx)) mV)) (fun _ _ h=>by
      obtain⟨e,H',rfl,he,rfl,⟨h1,h2⟩|h2⟩:=h
      . exact PP.of ⟨e,H',rfl,he,rfl,.inl ⟨(by rw[dn hrd hlf];exact bz (eD (m:=i+1) (by omega) (mI hk hx hlo hhi h1))),h2⟩⟩ sl
      . exact PP.of ⟨e,H',rfl,he,rfl,.inr h2⟩ sl) ?_
     rintro K_ E5 ⟨H4,d2,rfl,rfl,ua,nY,Ra,Rb⟩
     have hkn:=iR hk hx hlo hhi ua
     refine OT.U hT 1 rfl (.nil (.seq (.seq (.region (.U hT 3 rfl (.split 81 rfl (fun rF=> ?_) (fun rF=> ?_)))))))
     .
      refine OT.U hT 4 rfl (.call Tryz.call118 rfl rfl rfl rfl (dr) ?_)
      rintro rK k9 ⟨rfl,rfl⟩
      rw[if_pos (.inl (of_decide_eq_true rF))]at hkn
      refine OT.nil (.seq (.region (.U hT 2 rfl (.nil (.blk (.seq (.region (.U hT 2 rfl (.nil (.loop (i+1,d2,H4) ?_ ?_ (aa.cons rfl (aa.cons rfl (aa.cons rfl (aa.cons rfl (aa.cons rfl (aa.cons rfl (aa.aM rfl (by(try dsimp only);exact(int_eq (by rw[wrap_i64 (by omega) (by omega)];omega))) (aa.nil _)))))))) sl))))))))))
      . dsimp only
        exact⟨by omega,hkn,nY,by omega,by omega⟩
      . dsimp only
        omega
     .
      refine OT.U hT 4 rfl ?_
      refine OT.aY Tryz.call118 rfl rfl rfl rfl (bg) (fun _ _ h=>by
       obtain⟨hb,rfl,rfl⟩:=h
       have hb:¬d2=d:=by simpa using hb
       exact PP.of ⟨8,H4,by rw[bJ (by decide)],by decide,rfl,.inl ⟨(by rw[dn hrd hlf];refine bz (eD (m:=i+1) (by omega) (hkn.trans (if_neg ?_)));exact fun h=>h.elim (of_decide_eq_false rF) hb),nY⟩⟩ sl) ?_
      rintro rK k9 ⟨hb,rfl,rfl⟩
      have hb:d2=d:=by simpa using hb
      rw[if_pos (.inr hb)]at hkn
      refine OT.nil (.seq (.region (.U hT 2 rfl (.nil (.blk (.seq (.region (.U hT 2 rfl (.nil (.loop (i+1,d2,H4) ?_ ?_ (aa.cons rfl (aa.cons rfl (aa.cons rfl (aa.cons rfl (aa.cons rfl (aa.cons rfl (aa.aM rfl (by(try dsimp only);exact(int_eq (by rw[wrap_i64 (by omega) (by omega)];omega))) (aa.nil _)))))))) sl))))))))))
      . dsimp only
        exact⟨by omega,hkn,nY,by omega,by omega⟩
      . dsimp only
        omega
  .
   have qY:=of_decide_eq_false qY
   obtain rfl:i=n.kids.length:=by omega
   refine TT.exit (.seq (.loop (.here (.seq (.seq (.region (.U hT 3 rfl (.nil (.seq (.ret (.jm (rs:=[.tmp 8]) [_] (H3::r) rfl (.tmp rfl .nil) sl ?_)))))))))))
   try dsimp only[one]
   refine⟨H3,d+1,rfl,int_eq (by rw[wrap_i64 (by omega) (by omega)]),by rw[dn hrd hlf];exact aS hk,mV,by omega,by omega⟩
theorem Gv{P:Value}{I:Chunk->Prop}{E:Int->Chunk->Prop}{pg:Pg}(hP:ni Tryz.prog 5 P I E pg):∀(f:Nat),f<=64->∀{lo hi:ByteArray} {top:Bool} {H:Chunk} {r:List Chunk} {no:Int},ay no->Deep pg f no->I H->aN Tryz.prog 116 [P,.int .i64 no,.agg ⟨[.string lo,.string hi]⟩,.bool top] (H::r) (fun v' hs'=>∃H' d,hs'=H'::r/\v'= .int .i64 d/\dP pg f no lo hi top= .ok d/\I H'/\0<=d/\d<((f:Nat):Int)) (dW I E (fun e=>dP pg f no lo hi top= .error e) r):=by
 intro f
 induction f with
 |zero=>intro _ lo hi top H r no _ hd;exact hd.elim
 |succ f ih=>intro hf lo hi top H r no hno hd hI;exact DX hP (by omega) (ih (by omega)) hno hd hI
end Go.Proofs.YtihpkgmfkbkffaaGreat.Sx
end
section
namespace Go.Proofs.YtihpkgmfkbkffaaGreat.Sx
open Go Go.Sx Go.Pl
variable[au]
set_option maxHeartbeats 4000000 in
set_option maxRecDepth 100000 in
theorem DY{P:Value}{I:Chunk->Prop}{E:Int->Chunk->Prop}{pg:Pg}{H:Chunk}{r:List Chunk}(hP:ni Tryz.prog 5 P I E pg)(hI:I H){g:aG}(lX:fB pg= .ok g){A K1:Chunk}{bt bl bw cn:Nat}{an:Option Addr}{vc:Value}(eJ:Own Go.Sx.cM 1 3 (.slice an g.1.length cn) g.1 K1):aN Tryz.prog 115 [.pointer (some ⟨bl,0,none⟩),.pointer (some ⟨bt,0,none⟩)] (A::[(bl,blk [.pointer (some ⟨bw,0,none⟩)] 178 (0,0))]::[(bt,blk [P] 107 (0,0))]::[(bw,blk [P,.slice an g.1.length cn,vc] 182 (0,0))]::K1::H::r) (fun _ hs'=>∃dF,hs'=A::dF/\∃H',dQ pg= .ok ()/\I H'/\dF=H'::r) (fun v' hs'=>∃e dF,hs'=A::dF/\v'=ta e/\e≠0/\∃H',dF=H'::r/\((dQ pg= .error e/\I H')\/∃e0,E e0 H')):=by
 refine aN.enter 43 Tryz.func115 rfl Tryz.ntmps115 rfl ?_
 have TN:=(oN lX).1
 refine TT.cut (ι:=Chunk×Int) (fun j=>iK pg g= .ok (j.2)/\I (j.1)) (fun j=>[(0,.pointer (some ⟨bl,0,none⟩)),(1,.pointer (some ⟨bt,0,none⟩))]) (fun j=>A::[(bl,blk [.pointer (some ⟨bw,0,none⟩)] 178 (0,0))]::[(bt,blk [P] 107 (0,0))]::[(bw,blk [P,.slice an g.1.length cn,vc] 182 (0,0))]::K1::(j.1)::r) ?_ ?_
 .
  refine TT.seq (.region (.load rfl rfl (Ld.one hT rfl hz rfl) rfl ?_))
  refine OT.U hT 2 rfl (.load rfl rfl (Ld.slc hT rfl hz rfl) rfl ?_)
  refine OT.U hT 2 rfl (.nil (.seq (.cond rfl (fun en=> ?_) (fun en=> ?_))))
  .
   have hne:g.1≠[]:=by
    intro e;rw[e]at en;exact absurd (of_decide_eq_true en) (by simp)
   obtain⟨no,l,TO,hno,Q_⟩:=(Dv lX).resolve_left (fun h=>hne h.1)
   have hn0:g.1[0]? =some no:=by rw[TO];rfl
   have hgd:g.1.getD 0 0=no:=by rw[TO];rfl
   refine TT.draw (([(bl,blk [.pointer (some ⟨bw,0,none⟩)] 178 (0,0))]::[(bt,blk [P] 107 (0,0))]::[(bw,blk [P,.slice an g.1.length cn,vc] 182 (0,0))]::K1::r)) mixed (.take (fuel:=8) hT 0 rfl rfl kr kr kr rfl (.load rfl (Ld.one hT rfl hz rfl)) rfl ?_)
   refine AT.take (fuel:=7) hT 1 rfl rfl kr kr kr rfl (.load rfl (Ld.one hT rfl hz rfl)) rfl ?_
   refine AT.takes (fuel:=5) hT [2,3] kr kr rfl (.take (fuel:=4) hT 4 rfl rfl kr kr kr rfl (.load rfl (Ld.slc hT rfl hz rfl)) rfl ?_)
   refine AT.take (fuel:=3) hT 7 rfl rfl kr kr kr rfl (gB hT rfl Tryz.zeroValue186 rfl rfl) rfl (.index (fuel:=2) hT 5 rfl kr kr kr rfl rfl rfl rfl eJ.row.there.there.there (by omega) hn0 rfl (fun O8 Ak=> ?_))
   refine AT.take (fuel:=1) hT 6 rfl rfl kr kr kr rfl (.load rfl (Ak.bL hT rfl rfl)) rfl (.op (fuel:=0) 8 kr rfl sl ?_)
   refine OT.aY Tryz.call116 rfl rfl rfl rfl (aN.pull pl (Gv hP 32 (by decide) hno Q_ hI)) (fun _ _ h=>by
    obtain⟨e,H',rfl,he,rfl,⟨h1,h2⟩|⟨e0,h2⟩⟩:=h
    . exact PP.of ⟨e,_,rfl,rfl,he,H',rfl,.inl ⟨(tg lX ((lQ hne).trans (by rw[hgd];exact h1))),h2⟩⟩ sl
    . exact PP.of ⟨e,_,rfl,rfl,he,H',rfl,.inr ⟨e0,h2⟩⟩ sl) ?_
   rintro jY iE ⟨H2,d,rfl,rfl,ua,dU,_,_⟩
   refine OT.nil (.any (.done kr sl (.cut (H2,d) ?_ (aa.cons rfl (aa.cons rfl (aa.nil _))) sl)))
   . dsimp only
     exact⟨(lQ hne).trans (by rw[hgd];exact ua),dU⟩
  .
   have hne:g.1=[]:=List.length_eq_zero_iff.1 (by have:=of_decide_eq_false en;omega)
   refine TT.skip (.cut (H,0) ?_ (aa.cons rfl (aa.cons rfl (aa.nil _))) sl)
   . dsimp only
     exact⟨sZ hne,hI⟩
 .
  rintro⟨H1,d⟩ hI
  dsimp only at hI
  obtain⟨Kf,fX⟩:=hI
  show TT _ _ _ [(0,.pointer (some ⟨bl,0,none⟩)),(1,.pointer (some ⟨bt,0,none⟩))] (A::[(bl,blk [.pointer (some ⟨bw,0,none⟩)] 178 (0,0))]::[(bt,blk [P] 107 (0,0))]::[(bw,blk [P,.slice an g.1.length cn,vc] 182 (0,0))]::K1::H1::r)
  refine TT.seq (.region (.U hT 1 rfl (.nil (.seq (.block (.loop (ι:=Nat×Chunk) (fun j=>(j.1)<=32/\I (j.2)/\z7 (bn (pg 1)).2 g (j.1)/\(0<(j.1)->(bn (pg 1)).1=0)) (fun j=>32-(j.1)) (fun j=>[(0,.pointer (some ⟨bl,0,none⟩)),(1,.pointer (some ⟨bt,0,none⟩)),(20,.int .i64 ((j.1):Nat))]) (fun j=>A::[(bl,blk [.pointer (some ⟨bw,0,none⟩)] 178 (0,0))]::[(bt,blk [P] 107 (0,0))]::[(bw,blk [P,.slice an g.1.length cn,vc] 182 (0,0))]::K1::(j.2)::r) (0,H1) ?_ (aa.cons rfl (aa.cons rfl (aa.cons rfl (aa.nil _)))) sl ?_))))))
  . dsimp only
    exact⟨Nat.zero_le _,fX,fun no h=>absurd h (Nat.not_lt_zero _),fun h=>absurd h (Nat.lt_irrefl 0)⟩
  rintro⟨i,H3⟩ hI
  dsimp only at hI
  obtain⟨hi,mV,hm,hw⟩:=hI
  show TT _ _ _ [(0,.pointer (some ⟨bl,0,none⟩)),(1,.pointer (some ⟨bt,0,none⟩)),(20,.int .i64 (i:Nat))] (A::[(bl,blk [.pointer (some ⟨bw,0,none⟩)] 178 (0,0))]::[(bt,blk [P] 107 (0,0))]::[(bw,blk [P,.slice an g.1.length cn,vc] 182 (0,0))]::K1::H3::r)
  refine TT.seq (.region (.U hT 1 rfl (.nil (.seq (.seq (.cond rfl (fun eF=> ?_) (fun eF=> ?_)))))))
  .
   have eF:=of_decide_eq_true eF
   refine TT.skip (.seq (.seq (.block (.seq (.region (.U hT 2 rfl (.nil (.seq (.seq (.region (.load rfl rfl (Ld.one hT rfl hz rfl) rfl ?_)))))))))))
   refine OT.U hT 1 rfl (.call Tryz.call117 rfl rfl rfl rfl (aA.pull pl (A1 hP mV)) ?_)
   rintro CI Bz ⟨H4,b,e,rfl,rfl,hu⟩
   refine OT.U hT 5 rfl (.nil (.seq (.seq (.region (.U hT 3 rfl ?_)))))
   refine OT.aY Tryz.call118 rfl rfl rfl rfl (bg) (fun _ _ h=>by
    obtain⟨hb,rfl,rfl⟩:=h
    have hb:e≠0:=by simpa using hb
    refine PP.of ⟨e,_,rfl,by rw[bJ hb],hb,H4,rfl,?_⟩ sl
    rcases hu with⟨h,_⟩|⟨_,_,⟨h1,h2⟩|h2⟩
    . exact absurd h hb
    . exact .inl ⟨tW lX Kf h1 hb,h2⟩
    . exact .inr ⟨e,h2⟩) ?_
   rintro Hu EY ⟨hb,rfl,rfl⟩
   have hb:e=0:=by simpa using hb
   obtain⟨_,hw0,TP,nY⟩:=hu.resolve_right (fun h=>h.1 hb)
   refine OT.nil (.seq (.region (.U hT 1 rfl (.load rfl rfl (Ld.one hT rfl hz rfl) rfl ?_))))
   refine OT.U hT 2 rfl (.load rfl rfl (Ld.slc hT rfl hz rfl) rfl ?_)
   refine OT.U hT 1 rfl (.call Tryz.call119 rfl rfl rfl rfl (pq eJ.row.there.there.there.there.there (by omega)) ?_)
   rintro vu Bx ⟨rfl,rfl⟩
   refine OT.U hT 1 rfl ?_
   refine OT.aY Tryz.call118 rfl rfl rfl rfl (bg) (fun _ _ h=>by
    obtain⟨k3,rfl,rfl⟩:=h
    exact PP.of ⟨8,_,rfl,by rw[bJ (by decide)],by decide,H4,rfl,.inl ⟨tX lX Kf hw0 (i:=i) (by omega) (by rw[<-TP];simpa using k3),nY⟩⟩ sl) ?_
   rintro CK BC ⟨k3,rfl,rfl⟩
   have k3:hasB (bn (pg 1)).2 (i:Nat)=decide ((i:Int)∈g.1):=by rw[<-TP];simpa using k3
   refine OT.nil (.blk (.seq (.region (.U hT 2 rfl (.nil (.loop (i+1,H4) ?_ ?_ (aa.cons rfl (aa.cons rfl (aa.aM rfl (by(try dsimp only);exact(int_eq (by rw[wrap_i64 (by omega) (by omega)];omega))) (aa.nil _)))) sl))))))
   . dsimp only
     refine⟨by omega,nY,fun no h=> ?_,fun _=>hw0⟩
     by_cases e:no=i
     . subst e;exact k3
     . exact hm no (by omega)
   . dsimp only
     omega
  .
   have eF:=of_decide_eq_false eF
   obtain rfl:i=32:=by omega
   refine TT.exit (.seq (.loop (.here (.jm (rs:=[]) [] (A::H3::r) rfl .nil sl ?_))))
   try dsimp only[one]
   exact⟨_,rfl,H3,qS lX Kf (hw (by decide)) hm,mV,rfl⟩
set_option maxHeartbeats 2000000 in
set_option maxRecDepth 100000 in
theorem Gw{P:Value}{I:Chunk->Prop}{E:Int->Chunk->Prop}{pg:Pg}{H:Chunk}{r:List Chunk}(hP:ni Tryz.prog 5 P I E pg)(hI:I H):aA Tryz.prog 70 [P] (H::r) (fun v' hs'=>∃H' e,v'= .int .i64 e/\hs'=H'::r/\((e=0/\dQ pg= .ok ()/\I H')\/(e≠0/\((dQ pg= .error e/\I H')\/∃e0,E e0 H')))):=by
 refine aA.enter 15 Tryz.func70 rfl Tryz.ntmps70 rfl ?_
 obtain⟨ti,ui,Nb⟩:=hP.iface
 subst Nb
 refine TT.seq (.region (.box rfl rfl rfl (fun b_1=> ?_)))
 refine OT.U hT 1 rfl (.nil (.seq (.seq (.region (.load rfl rfl (Ld.one hT rfl hz rfl) rfl ?_)))))
 refine OT.call Tryz.call110 rfl rfl rfl rfl (aA.pull pl (Fu hP hI)) ?_
 rintro CV tD (⟨bw,g,vn,vc,K1,K2,H',rfl,lX,eJ,pI,zy,rfl⟩|⟨p,e,H',rfl,he,rfl,mX⟩)
 .
  obtain⟨an,cn,e1⟩:=(eJ.row (hs:=[])).len
  subst e1
  have TN:=oN lX
  refine OT.U hT 3 rfl (.alloc Tryz.zeroValue178 rfl rfl (fun pG=> ?_))
  refine OT.ag hT rfl rfl rfl rfl pl rfl rfl rfl (.inl (Nat.le_refl _)) ?_
  refine OT.U hT 1 rfl (.nil (.seq (.seq (.seq (.region (.U hT 2 rfl (.nil (.seq (.cond rfl (fun pH=> ?_) (fun pH=> ?_))))))))))
  .
   exact absurd pH (by decide)
  .
   refine TT.skip (.seq (.seq (.region (.U hT 1 rfl (.call Tryz.call84 rfl rfl rfl rfl ((mL (N:=fun _ dF=>∃H',dQ pg= .ok ()/\I H'/\dF=H'::r) (E:=fun e dF=>e≠0/\∃H',dF=H'::r/\((dQ pg= .error e/\I H')\/∃e0,E e0 H')) Tryz.call115 (fun A=>aN.weaken sl (DY (r:=r) (A:=A) (K1:=K1) (bt:=b_1) (bl:=pG) (bw:=bw) (vc:=vc) hP zy lX eJ)))) ?_)))))
   rintro CL ur (⟨rfl,_,H2,tr,dU,rfl⟩|⟨e,rfl,he,H2,rfl,mX⟩)
   .
    refine OT.U hT 1 rfl (.nil (.seq (.ret (.of (rs:=[.tmp 2]) [_] (H2::r) rfl (.tmp rfl .nil) sl ?_))))
    try dsimp only[one]
    exact⟨H2,0,rfl,rfl,.inl ⟨rfl,tr,dU⟩⟩
   .
    refine OT.U hT 1 rfl (.nil (.seq (.ret (.of (rs:=[.tmp 2]) [_] (H2::r) rfl (.tmp rfl .nil) sl ?_))))
    try dsimp only[one]
    exact⟨H2,e,rfl,rfl,.inr ⟨he,mX⟩⟩
 .
  refine OT.U hT 3 rfl (.alloc Tryz.zeroValue178 rfl rfl (fun pG=> ?_))
  refine OT.ag hT rfl rfl rfl rfl pl rfl rfl rfl (.inl (Nat.le_refl _)) ?_
  refine OT.U hT 1 rfl (.nil (.seq (.seq (.seq (.region (.U hT 2 rfl (.nil (.seq (.cond rfl (fun pH=> ?_) (fun pH=> ?_))))))))))
  .
   refine TT.seq (.region (.U hT 2 rfl (.nil (.seq (.ret (.of (rs:=[.tmp 2]) [_] (H'::r) rfl (.tmp rfl .nil) sl ?_))))))
   try dsimp only[one]
   refine⟨H',e,rfl,rfl,.inr ⟨he,?_⟩⟩
   rcases mX with⟨h1,h2⟩|h2
   . exact .inl ⟨wJ h1,h2⟩
   . exact .inr h2
  .
   exact absurd pH (by simpa using he)
end Go.Proofs.YtihpkgmfkbkffaaGreat.Sx
end
section
namespace Go.Proofs.YtihpkgmfkbkffaaGreat.Sx
open Go Go.Sx Go.Pl
variable[au]
def p6(b:Nat)(g:aG)(H:Chunk):Prop:=∃bk,gi 110 b (.iface 26 (.pointer (some ⟨bk,0,none⟩))) (eL 30 bk tu) tu g H
theorem qy{bk:Nat}:cW Tryz.prog 5 (.iface 26 (.pointer (some ⟨bk,0,none⟩))) (eL 30 bk tu) (fun _ _=>False) (aK tu):=cW.of (fun no=>by
 unfold aK;split
 . show(dO 256).length<=4096;rw[dS];omega
 . exact Nat.zero_le _) oV
theorem Fv{bk:Nat}{B:Chunk}{r:List Chunk}(hB:eL 30 bk tu B):aA Tryz.prog 15 [.iface 26 (.pointer (some ⟨bk,0,none⟩))] (B::r) (fun v' hs'=>∃b H',v'= .pointer (some ⟨b,0,none⟩)/\hs'=H'::r/\p6 b ([],[]) H'):=by
 refine(Aj (I:=eL 30 bk tu) hB).mono ?_
 rintro v' hs' ⟨b,H',rfl,rfl,h3⟩
 exact⟨b,H',rfl,rfl,bk,tu,⟨_,h3,(uI _).symm⟩,AU,eV.refl _⟩
theorem Ar{b:Nat}{g:aG}{H:Chunk}{r:List Chunk}(hH:p6 b g H){x:Cell}(gA:x.val.f<2^64/\x.new.f<2^64):aA Tryz.prog 54 [.pointer (some ⟨b,0,none⟩),.agg ⟨aj x⟩] (H::r) (fun v' hs'=>∃H' g' e,hs'=H'::r/\v'= .int .i64 e/\p6 b g' H'/\CG x g g' e):=by
 obtain⟨bk,Qt,hS,hR⟩:=hH
 refine(An qy gC hS gA).mono ?_
 rintro v' hs' ⟨H',e,rfl,rfl,⟨hm,rfl,k4⟩|⟨hm,⟨Q',rfl,hp,k4⟩|⟨he,hp,k4⟩|hb⟩⟩
 . exact⟨H',g,1,rfl,rfl,⟨bk,Qt,k4,hR⟩,.inl ⟨hm,rfl,rfl⟩⟩
 . obtain⟨g',h1,h2,h3⟩:=hR.Ex hm gA hp
   exact⟨H',g',0,rfl,rfl,⟨bk,Q',k4,h1⟩,.inr (.inl ⟨hm,rfl,h2,h3⟩)⟩
 . obtain⟨rfl,h2,h3,h4⟩:=hR.right.KD hm gA hp
   exact⟨H',g,4,rfl,rfl,⟨bk,Qt,k4,hR⟩,.inr (.inr ⟨hm,rfl,rfl,h2,h3,h4⟩)⟩
 . exact(gP hb).elim
theorem L9{b:Nat}{g:aG}{H:Chunk}{r:List Chunk}(hH:p6 b g H){k:ByteArray}:aA Tryz.prog 56 [.pointer (some ⟨b,0,none⟩),.string k] (H::r) (fun v' hs'=>∃H' g',hs'=H'::r/\v'= .tuple ⟨[.bool (cz g.2 k).isSome,.int .i64 0]⟩/\p6 b g' H'/\g'.2=iq g.2 k/\g'.1.length<=g.1.length):=by
 obtain⟨bk,Qt,hS,hR⟩:=hH
 refine(Ao qy gC hS).mono ?_
 rintro v' hs' ⟨H',has,e,rfl,rfl,⟨Q',rfl,hp,k4⟩|⟨_,_,hp,_⟩|⟨_,hb⟩⟩
 . obtain⟨g',h1,h2,rfl,h3⟩:=hR.Ey hp
   exact⟨H',g',rfl,rfl,⟨bk,Q',k4,h1⟩,h2,h3⟩
 . exact absurd hp hR.right.KF
 . exact(gP hb).elim
theorem L_{b:Nat}{g:aG}{H:Chunk}{r:List Chunk}(hH:p6 b g H){k:ByteArray}:aA Tryz.prog 53 [.iface 24 (.pointer (some ⟨b,0,none⟩)),.string k] (H::r) (fun v' hs'=>∃H',hs'=H'::r/\v'= .tuple ⟨[.agg ⟨aj ((cz g.2 k).getD noCell)⟩,.bool (cz g.2 k).isSome,.int .i64 0]⟩/\p6 b g H'):=by
 obtain⟨bk,Qt,hS,hR⟩:=hH
 refine(Ft (cu qy gC (Qt:=Qt)).D9 hS).mono ?_
 rintro v' hs' ⟨H',o,e,rfl,rfl,⟨rfl,hp,k4⟩|⟨_,_,⟨hp,_⟩|⟨_,_,hb⟩⟩⟩
 . exact⟨H',rfl,by rw[hR.right.Nz hp],bk,Qt,k4,hR⟩
 . exact absurd hp hR.right.NA
 . exact(gP hb).elim
theorem I2{b:Nat}{g:aG}{H:Chunk}{r:List Chunk}(hH:p6 b g H){s t:ByteArray}:aA Tryz.prog 60 [.iface 24 (.pointer (some ⟨b,0,none⟩)),.string s,.string t] (H::r) (fun v' hs'=>∃H' K v,hs'=H'::K::r/\v'= .tuple ⟨[v,.int .i64 0]⟩/\Own aj 8 113 v (g.2.filter fun c=>bW c.key s t) K/\p6 b g H'):=by
 obtain⟨bk,Qt,hS,hR⟩:=hH
 refine(Cy (cu qy gC (Qt:=Qt)).D9 hS).mono ?_
 rintro v' hs' (⟨H',K,v,g',rfl,rfl,lX,ho,k4⟩|⟨e,H',rfl,_,rfl,⟨hp,_⟩|⟨_,_,hb⟩⟩)
 . rw[hR.right.all]at lX
   injection lX with lX
   subst lX
   exact⟨H',K,v,rfl,rfl,ho,bk,Qt,k4,hR⟩
 . rw[hR.right.all]at hp;cases hp
 . exact(gP hb).elim
theorem Gx{b:Nat}{g:aG}{H:Chunk}{r:List Chunk}(hH:p6 b g H):aA Tryz.prog 70 [.iface 24 (.pointer (some ⟨b,0,none⟩))] (H::r) (fun v' hs'=>∃H',hs'=H'::r/\v'= .int .i64 0/\p6 b g H'):=by
 obtain⟨bk,Qt,hS,hR⟩:=hH
 refine(Gw (cu qy gC (Qt:=Qt)).D9 hS).mono ?_
 rintro v' hs' ⟨H',e,rfl,rfl,⟨rfl,_,k4⟩|⟨_,⟨hp,_⟩|⟨_,_,hb⟩⟩⟩
 . exact⟨H',rfl,rfl,bk,Qt,k4,hR⟩
 . rw[hR.right.check]at hp;cases hp
 . exact(gP hb).elim
omit [au] in
theorem p6.small{b:Nat}{g:aG}{H:Chunk}(h:p6 b g H):g.1.length<=30/\g.2.length<=8192/\rising (keysOf g.2)/\g.1.Nodup/\(∀m∈g.1,ay m):=by obtain⟨bk,h⟩:=h;exact h.small
omit [au] in
theorem p6.any{b:Nat}{g:aG}{H:Chunk}(h:p6 b g H)(h0:0<g.2.length):0<g.1.length:=by obtain⟨bk,h⟩:=h;exact h.any h0
omit [au] in
theorem p6.nil{b:Nat}{g:aG}{H:Chunk}(h:p6 b g H)(h0:g.2=[]):g=([],[]):=by obtain⟨bk,h⟩:=h;exact h.nil h0
end Go.Proofs.YtihpkgmfkbkffaaGreat.Sx
end
section
namespace Go.Proofs.YtihpkgmfkbkffaaGreat.Sx
open Go Go.Sx Go.Pl
variable[au]
theorem pX{P:Value}{I:Chunk->Prop}{Qb:ah}(hP:cW Tryz.prog 5 P I (fun _ _=>False) (aK Qb))(hQ:cQ Qb){b:Nat}{g:aG}{H:Chunk}{r:List Chunk}(hH:gi 110 b P I Qb g H){x:Cell}(gA:x.val.f<2^64/\x.new.f<2^64):aA Tryz.prog 54 [.pointer (some ⟨b,0,none⟩),.agg ⟨aj x⟩] (H::r) (fun v' hs'=>∃H' g' e,hs'=H'::r/\v'= .int .i64 e/\gi 110 b P I Qb g' H'/\CG x g g' e):=by
 obtain⟨Qt,hS,hR⟩:=hH
 refine(An hP hQ hS gA).mono ?_
 rintro v' hs' ⟨H',e,rfl,rfl,⟨hm,rfl,k4⟩|⟨hm,⟨Q',rfl,hp,k4⟩|⟨he,hp,k4⟩|hb⟩⟩
 . exact⟨H',g,1,rfl,rfl,⟨Qt,k4,hR⟩,.inl ⟨hm,rfl,rfl⟩⟩
 . obtain⟨g',h1,h2,h3⟩:=hR.Ex hm gA hp
   exact⟨H',g',0,rfl,rfl,⟨Q',k4,h1⟩,.inr (.inl ⟨hm,rfl,h2,h3⟩)⟩
 . obtain⟨rfl,h2,h3,h4⟩:=hR.right.KD hm gA hp
   exact⟨H',g,4,rfl,rfl,⟨Qt,k4,hR⟩,.inr (.inr ⟨hm,rfl,rfl,h2,h3,h4⟩)⟩
 . exact(gP hb).elim
theorem Fw{P:Value}{I:Chunk->Prop}{Qb:ah}(hP:cW Tryz.prog 5 P I (fun _ _=>False) (aK Qb))(hQ:cQ Qb){b:Nat}{g:aG}{H:Chunk}{r:List Chunk}(hH:gi 110 b P I Qb g H){k:ByteArray}:aA Tryz.prog 56 [.pointer (some ⟨b,0,none⟩),.string k] (H::r) (fun v' hs'=>∃H' g',hs'=H'::r/\v'= .tuple ⟨[.bool (cz g.2 k).isSome,.int .i64 0]⟩/\gi 110 b P I Qb g' H'/\g'.2=iq g.2 k/\g'.1.length<=g.1.length):=by
 obtain⟨Qt,hS,hR⟩:=hH
 refine(Ao hP hQ hS).mono ?_
 rintro v' hs' ⟨H',has,e,rfl,rfl,⟨Q',rfl,hp,k4⟩|⟨_,_,hp,_⟩|⟨_,hb⟩⟩
 . obtain⟨g',h1,h2,rfl,h3⟩:=hR.Ey hp
   exact⟨H',g',rfl,rfl,⟨Q',k4,h1⟩,h2,h3⟩
 . exact absurd hp hR.right.KF
 . exact(gP hb).elim
theorem Fx{P:Value}{I:Chunk->Prop}{Qb:ah}(hP:cW Tryz.prog 5 P I (fun _ _=>False) (aK Qb))(hQ:cQ Qb){b:Nat}{g:aG}{H:Chunk}{r:List Chunk}(hH:gi 110 b P I Qb g H){k:ByteArray}:aA Tryz.prog 53 [.iface 24 (.pointer (some ⟨b,0,none⟩)),.string k] (H::r) (fun v' hs'=>∃H',hs'=H'::r/\v'= .tuple ⟨[.agg ⟨aj ((cz g.2 k).getD noCell)⟩,.bool (cz g.2 k).isSome,.int .i64 0]⟩/\gi 110 b P I Qb g H'):=by
 obtain⟨Qt,hS,hR⟩:=hH
 refine(Ft (cu hP hQ (Qt:=Qt)).D9 hS).mono ?_
 rintro v' hs' ⟨H',o,e,rfl,rfl,⟨rfl,hp,k4⟩|⟨_,_,⟨hp,_⟩|⟨_,_,hb⟩⟩⟩
 . exact⟨H',rfl,by rw[hR.right.Nz hp],Qt,k4,hR⟩
 . exact absurd hp hR.right.NA
 . exact(gP hb).elim
theorem I3{P:Value}{I:Chunk->Prop}{Qb:ah}(hP:cW Tryz.prog 5 P I (fun _ _=>False) (aK Qb))(hQ:cQ Qb){b:Nat}{g:aG}{H:Chunk}{r:List Chunk}(hH:gi 110 b P I Qb g H){s t:ByteArray}:aA Tryz.prog 60 [.iface 24 (.pointer (some ⟨b,0,none⟩)),.string s,.string t] (H::r) (fun v' hs'=>∃H' K v,hs'=H'::K::r/\v'= .tuple ⟨[v,.int .i64 0]⟩/\Own aj 8 113 v (g.2.filter fun c=>bW c.key s t) K/\gi 110 b P I Qb g H'):=by
 obtain⟨Qt,hS,hR⟩:=hH
 refine(Cy (cu hP hQ (Qt:=Qt)).D9 hS).mono ?_
 rintro v' hs' (⟨H',K,v,g',rfl,rfl,lX,ho,k4⟩|⟨e,H',rfl,_,rfl,⟨hp,_⟩|⟨_,_,hb⟩⟩)
 . rw[hR.right.all]at lX
   injection lX with lX
   subst lX
   exact⟨H',K,v,rfl,rfl,ho,Qt,k4,hR⟩
 . rw[hR.right.all]at hp;cases hp
 . exact(gP hb).elim
def MB(s t:Nat)(P:Value)(I:Chunk->Prop)(Qb Qs:ah)(g:aG)(H:Chunk):Prop:=∃Qt,aV 110 t (.iface 24 (.pointer (some ⟨s,0,none⟩))) (aV 110 s P I Qb Qs) Qs Qt H/\lq Qs Qt g
theorem I4{P:Value}{I:Chunk->Prop}{Qb:ah}(hP:cW Tryz.prog 5 P I (fun _ _=>False) (aK Qb))(hQ:cQ Qb){s:Nat}{Qs:ah}{g:aG}{H:Chunk}{r:List Chunk}(hS:aV 110 s P I Qb Qs H)(hR:aU Qs g):aA Tryz.prog 15 [.iface 24 (.pointer (some ⟨s,0,none⟩))] (H::r) (fun v' hs'=>∃t H',v'= .pointer (some ⟨t,0,none⟩)/\hs'=H'::r/\MB s t P I Qb Qs g H'):=by
 refine(Aj (I:=aV 110 s P I Qb Qs) hS).mono ?_
 rintro v' hs' ⟨t,H',rfl,rfl,h3⟩
 exact⟨t,H',rfl,rfl,Qs,⟨_,h3,(uI _).symm⟩,hR,eV.refl _⟩
theorem Gy{P:Value}{I:Chunk->Prop}{Qb:ah}(hP:cW Tryz.prog 5 P I (fun _ _=>False) (aK Qb))(hQ:cQ Qb){s t:Nat}{Qs:ah}(Hg:cQ Qs){g:aG}{H:Chunk}{r:List Chunk}(hH:MB s t P I Qb Qs g H){x c:Cell}(hm:aC x=true)(gA:x.val.f<2^64/\x.new.f<2^64)(hc:c∈g.2)(hk:c.key=x.key)(hl:(ax x).length<=(ax c).length):aA Tryz.prog 54 [.pointer (some ⟨t,0,none⟩),.agg ⟨aj x⟩] (H::r) (fun v' hs'=>∃H' g',hs'=H'::r/\v'= .int .i64 0/\MB s t P I Qb Qs g' H'/\g'.2=b5 g.2 x):=by
 obtain⟨Qt,hS,hR⟩:=hH
 refine(An (cu hP hQ) Hg hS gA).mono ?_
 rintro v' hs' ⟨H',e,rfl,rfl,⟨hm',rfl,k4⟩|⟨_,⟨Q',rfl,hp,k4⟩|⟨he,hp,k4⟩|hb⟩⟩
 . rw[hm]at hm';cases hm'
 . obtain⟨g',h1,h2,_⟩:=hR.Ex hm gA hp
   exact⟨H',g',rfl,rfl,⟨Q',k4,h1⟩,h2⟩
 . obtain⟨_,_,_,h4⟩:=hR.right.KD hm gA hp
   have:=h4 c hc hk
   omega
 . obtain⟨_,h⟩:=hb
   obtain⟨_,_,_,_,_,_,_,h⟩:=h.is
   exact(gP h).elim
theorem Ma{P:Value}{I:Chunk->Prop}{Qb:ah}(hP:cW Tryz.prog 5 P I (fun _ _=>False) (aK Qb))(hQ:cQ Qb){s t:Nat}{Qs:ah}(Hg:cQ Qs){g:aG}{H:Chunk}{r:List Chunk}(hH:MB s t P I Qb Qs g H){k:ByteArray}:aA Tryz.prog 56 [.pointer (some ⟨t,0,none⟩),.string k] (H::r) (fun v' hs'=>∃H' g' bb,hs'=H'::r/\v'= .tuple ⟨[.bool bb,.int .i64 0]⟩/\MB s t P I Qb Qs g' H'/\g'.2=iq g.2 k):=by
 obtain⟨Qt,hS,hR⟩:=hH
 refine(Ao (cu hP hQ) Hg hS).mono ?_
 rintro v' hs' ⟨H',has,e,rfl,rfl,⟨Q',rfl,hp,k4⟩|⟨_,_,hp,_⟩|⟨_,hb⟩⟩
 . obtain⟨g',h1,h2,rfl,h3⟩:=hR.Ey hp
   exact⟨H',g',_,rfl,rfl,⟨Q',k4,h1⟩,h2⟩
 . exact absurd hp hR.right.KF
 . obtain⟨_,h⟩:=hb
   obtain⟨_,_,_,_,_,_,_,h⟩:=h.is
   exact(gP h).elim
theorem zh{P:Value}{I:Chunk->Prop}{Qb:ah}(hP:cW Tryz.prog 5 P I (fun _ _=>False) (aK Qb))(hQ:cQ Qb){s t:Nat}{Qs Qt:ah}(Hg:cQ Qs){H:Chunk}{r:List Chunk}(hS:aV 110 t (.iface 24 (.pointer (some ⟨s,0,none⟩))) (aV 110 s P I Qb Qs) Qs Qt H):aA Tryz.prog 47 [.pointer (some ⟨t,0,none⟩)] (H::r) (fun v' hs'=>∃ts HI H',hs'=HI::H'::r/\rZ 143 5 v' ts HI/\aV 110 t (.iface 24 (.pointer (some ⟨s,0,none⟩))) (aV 110 s P I Qb Qs) Qs Qt H'/\jv ts=zA Qs Qt 96/\(∀x∈jv ts,aD x.1/\x.2.length=256)/\ts.length<=96):=by
 obtain⟨m,hm,rfl⟩:=hS
 refine(s8 (bd:=false) (cu hP hQ) Hg hm).mono ?_
 rintro v' hs' ⟨bd,ts,HI,H',rfl,ho,k4,_,tr,zx,hl⟩
 cases bd with
 |true=>
  obtain⟨_,_,_,_,_,_,_,hb⟩:=k4.is
  exact(gP hb:False).elim
 |false=>exact⟨ts,HI,H',rfl,ho,⟨m,k4,rfl⟩,tr rfl,zx,hl⟩
end Go.Proofs.YtihpkgmfkbkffaaGreat.Sx
end
