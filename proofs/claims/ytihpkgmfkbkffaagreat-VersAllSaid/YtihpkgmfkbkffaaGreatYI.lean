/- Part 9 of what the proofs of these rest on: All. -/
import Derived.Test.YtihpkgmfkbkffaaGreatYH
import Derived.Test.YtihpkgmfkbkffaaGreatYC
import Derived.Test.YtihpkgmfkbkffaaGreatYB
import Derived.Test.YtihpkgmfkbkffaaGreatYD
import Derived.Test.YtihpkgmfkbkffaaGreatYA
import Derived.Test.YtihpkgmfkbkffaaGreatShelf
import Derived.Sort.Grow
import Derived.Test.YtihpkgmfkbkffaaGreatYG
import Derived.Test.YtihpkgmfkbkffaaGreatYF
import Derived.Test.YtihpkgmfkbkffaaGreatYE
set_option linter.unusedVariables false
set_option linter.unusedSimpArgs false
set_option linter.unusedSectionVars false
section
namespace Go.Proofs.YtihpkgmfkbkffaaGreat.Sx
open Go Go.Sx Go.Pl
variable[aq]
set_option maxHeartbeats 1000000 in
set_option maxRecDepth 100000 in
theorem Bt{b:Nat}{P:Value}{I:Chunk->Prop}{E:Int->Chunk->Prop}{Qb:ah}(hP:cM Tryz.prog 5 P I E (aI Qb))(hQ:cC Qb){Qt:ah}{H:Chunk}{r:List Chunk}(hH:aM 110 b P I Qb Qt H){cs:List Value}{n:Nd}(h:fJ r cs n)(hlc:n.cells.length<=1000)(hlk:n.keys.length<=1000000)(vS:n.kids.length<=1000000)(hf:∀c∈n.cells,c.val.f<2^64/\c.new.f<2^64){no:Int}(hno:av no){left:Nat}:aH Tryz.prog 150 [.pointer (some ⟨b,0,none⟩),.int .i64 no,.agg ⟨cs⟩,.int .i64 (left:Nat)] (H::r) (fun v' hs'=>∃H' gone Q',hs'=H'::r/\v'= .bool gone/\jV Qt no n left= .ok (gone,Q')/\aM 110 b P I Qb Q' H') (dJ (fun H=>∃Q',aM 110 b P I Qb Q' H) (cD 110 b P E) (fun e=>jV Qt no n left= .error e) r):=by
 refine aH.enter 18 Tryz.func150 rfl Tryz.ntmps150 rfl ?_
 have h4:=h.four
 have l7:=hno
 unfold av at l7
 refine TT.seq (.region (.box rfl rfl rfl (fun gB=> ?_)))
 refine OT.U hT 1 rfl (.nil (.seq (.seq (.seq (.region (.U hT 2 rfl (.nil (.seq (.cond rfl (fun c_=> ?_) (fun c_=> ?_))))))))))
 .
  have c_:left=0:=by simpa using c_
  refine TT.seq (.region (.U hT 2 rfl ?_))
  refine OT.aR Tryz.call153 rfl rfl rfl rfl (aH.pull pl (Br hP hQ hH (no:=no) (by omega))) (fun _ _ h=>by
   obtain⟨e,H',rfl,he,rfl,⟨h1,h2⟩|h2⟩:=h
   . exact PP.of ⟨e,H',rfl,he,rfl,.inl ⟨(by rw[jD c_];exact a_ h1),h2⟩⟩ sl
   . exact PP.of ⟨e,H',rfl,he,rfl,.inr h2⟩ sl) ?_
  rintro yI DR ⟨H2,Q2,rfl,rfl,C2,dH⟩
  refine OT.nil (.seq (.seq (.region (.U hT 1 rfl (.nil (.seq (.ret (.iF (rs:=[.tmp 8]) [_] (H2::r) rfl (.tmp rfl .nil) sl ?_))))))))
  try dsimp only[one]
  exact⟨H2,true,Q2,rfl,rfl,by rw[jD c_];exact aK C2,dH⟩
 .
  have c_:left≠0:=by simpa using c_
  refine TT.skip (.seq (.seq (.region (.U hT 2 rfl (.load rfl rfl (Ld.af hT rfl hz h4) rfl ?_)))))
  refine OT.aR Tryz.call104 rfl rfl rfl rfl (aH.pull pl (oM hP hQ hH (h.mono fun _ _ h=> .there h) hlc hlk vS hf (jc hno))) (fun _ _ h=>by
   obtain⟨e,H',rfl,he,rfl,⟨h1,h2⟩|h2⟩:=h
   . exact PP.of ⟨e,H',rfl,he,rfl,.inl ⟨(by rw[jE c_];exact a_ h1),h2⟩⟩ sl
   . exact PP.of ⟨e,H',rfl,he,rfl,.inr h2⟩ sl) ?_
  rintro BH AJ ⟨H2,Q2,rfl,rfl,C2,dH⟩
  refine OT.nil (.seq (.seq (.region (.U hT 1 rfl (.nil (.seq (.ret (.iF (rs:=[.tmp 8]) [_] (H2::r) rfl (.tmp rfl .nil) sl ?_))))))))
  try dsimp only[one]
  exact⟨H2,false,Q2,rfl,rfl,by rw[jE c_];exact aK C2,dH⟩
set_option maxHeartbeats 1000000 in
set_option maxRecDepth 100000 in
theorem Am{b:Nat}{P:Value}{I:Chunk->Prop}{E:Int->Chunk->Prop}{Qb:ah}(hP:cM Tryz.prog 5 P I E (aI Qb))(hQ:cC Qb){k:ByteArray}{Qt:ah}{H:Chunk}{r:List Chunk}{no:Int}(hH:aM 110 b P I Qb Qt H):aH Tryz.prog 107 [.pointer (some ⟨b,0,none⟩),.int .i64 no,.string k,.int .i64 32] (H::r) (fun v' hs'=>∃H' y Q',hs'=H'::r/\v'= .tuple ⟨[.bool y.1,.bool y.2]⟩/\bC k 0 Qt no= .ok (y,Q')/\aM 110 b P I Qb Q' H') (dJ (fun H=>∃Q',aM 110 b P I Qb Q' H) (cD 110 b P E) (fun e=>bC k 0 Qt no= .error e) r):=by
 refine aH.enter 96 Tryz.func107 rfl Tryz.ntmps107 rfl ?_
 refine TT.seq (.region (.U hT 2 rfl (.nil (.seq (.seq (.region (.U hT 2 rfl ?_)))))))
 refine OT.aR Tryz.call118 rfl rfl rfl rfl (gl) (fun _ _ h=>by
  obtain⟨rfl,rfl⟩:=h
  exact PP.of ⟨8,H,by rw[bJ (by decide)],by decide,rfl,.inl ⟨rfl,Qt,hH⟩⟩ sl) ?_
 rintro uf wz ⟨hb,_⟩
 exact hb.elim
set_option maxHeartbeats 4000000 in
set_option maxRecDepth 100000 in
theorem An{b:Nat}{P:Value}{I:Chunk->Prop}{E:Int->Chunk->Prop}{Qb:ah}(hP:cM Tryz.prog 5 P I E (aI Qb))(hQ:cC Qb){k:ByteArray}{d f:Nat}(hd:d<32)(ih:∀{Q:ah} {H:Chunk} {r:List Chunk} {no:Int},av no->aM 110 b P I Qb Q H->aH Tryz.prog 107 [.pointer (some ⟨b,0,none⟩),.int .i64 no,.string k,.int .i64 ((d+1:Nat):Int)] (H::r) (fun v' hs'=>∃H' y Q',hs'=H'::r/\v'= .tuple ⟨[.bool y.1,.bool y.2]⟩/\bC k f Q no= .ok (y,Q')/\aM 110 b P I Qb Q' H') (dJ (fun H=>∃Q',aM 110 b P I Qb Q' H) (cD 110 b P E) (fun e=>bC k f Q no= .error e) r)){Qt:ah}{H:Chunk}{r:List Chunk}{no:Int}(hno:av no)(hH:aM 110 b P I Qb Qt H):aH Tryz.prog 107 [.pointer (some ⟨b,0,none⟩),.int .i64 no,.string k,.int .i64 (d:Nat)] (H::r) (fun v' hs'=>∃H' y Q',hs'=H'::r/\v'= .tuple ⟨[.bool y.1,.bool y.2]⟩/\bC k (f+1) Qt no= .ok (y,Q')/\aM 110 b P I Qb Q' H') (dJ (fun H=>∃Q',aM 110 b P I Qb Q' H) (cD 110 b P E) (fun e=>bC k (f+1) Qt no= .error e) r):=by
 refine aH.enter 96 Tryz.func107 rfl Tryz.ntmps107 rfl ?_
 refine TT.seq (.region (.U hT 2 rfl (.nil (.seq (.seq (.region (.U hT 2 rfl ?_)))))))
 refine OT.aR Tryz.call118 rfl rfl rfl rfl (aU) (fun _ _ h=>by
  obtain⟨hb,_⟩:=h
  exact absurd (of_decide_eq_false hb) (by omega)) ?_
 rintro uf wz ⟨hb,rfl,rfl⟩
 refine OT.nil (.seq (.seq (.region (.U hT 1 rfl (.bU Tryz.underlying24 rfl rfl rfl rfl (.U hT 1 rfl ?_))))))
 refine OT.aR Tryz.call95 rfl rfl rfl rfl (aH.pull pl (lE (b_ hP hQ).CZ hH (gI hno))) (fun _ _ h=>by
  obtain⟨e,H',rfl,he,rfl,⟨h1,h2⟩|⟨_,e0,h2⟩⟩:=h
  . exact PP.of ⟨e,H',rfl,he,rfl,.inl ⟨xK h1,_,h2⟩⟩ sl
  . exact PP.of ⟨e,H',rfl,he,rfl,.inr ⟨_,h2⟩⟩ sl) ?_
 rintro yH sY ⟨H1,K,cs,n,rfl,rfl,hN,fS,hrd⟩
 have hni:=(gS hrd).nd
 have hnc:=hni.cells
 have hnk:=hni.keys
 have hnd:=hni.kids
 obtain⟨vc,vk,vi,KA,KB,KC,rfl,rfl,pQ,pR,nj⟩:=hN.is
 obtain⟨ac,cc,e1⟩:=(pQ.row (hs:=[])).len
 obtain⟨ak,ck,e2⟩:=(pR.row (hs:=[])).len
 obtain⟨ai,ci,e3⟩:=(nj.row (hs:=[])).len
 subst e1 e2 e3
 refine OT.perm gH ?_
 have HG:∀hs,fJ (KA::KB::KC::hs) [.bool n.leaf,.slice ac n.cells.length cc,.slice ak n.keys.length ck,.slice ai n.kids.length ci] n:=fun hs=>⟨_,_,_,rfl,pQ.row,pR.row.there,nj.row.there.there⟩
 refine OT.alloc Tryz.zeroValue159 rfl rfl (fun qK=> ?_)
 refine OT.ag hT rfl rfl rfl rfl pl rfl rfl rfl (.inl (Nat.le_refl _)) ?_
 refine OT.nil (.seq (.seq (.seq (.region (.U hT 1 rfl (.load rfl rfl (Ld.one hT rfl hz rfl) rfl ?_))))))
 refine OT.nil (.seq (.cond rfl (fun nD=> ?_) (fun nD=> ?_)))
 .
  have hlf:n.leaf=true:=nD
  refine TT.seq (.region (.load rfl rfl (Ld.af hT rfl hz rfl) rfl ?_))
  refine OT.U hT 1 rfl (.call Tryz.call96 rfl rfl rfl rfl (uU ((HG _).mono fun _ _ h=>(.there (.there h))) (by omega) hni.fq) ?_)
  rintro qJ pH ⟨rfl,rfl⟩
  refine OT.U hT 5 rfl (.nil (.seq (.seq (.seq (.region (.U hT 2 rfl (.nil (.seq (.cond rfl (fun nF=> ?_) (fun nF=> ?_))))))))))
  .
   have nF:¬(keysOf n.cells)[aG (keysOf n.cells) k]? =some k:=by simpa using nF
   refine TT.seq (.region (.U hT 2 rfl (.nil (.seq (.ret (.iF (rs:=[.tmp 8,.tmp 9]) [_,_] (H1::r) rfl (.tmp rfl (.tmp rfl .nil)) sl ?_))))))
   try dsimp only[one]
   exact⟨H1,(false,false),Qt,rfl,rfl,u9 hrd hlf nF,fS⟩
  .
   have nF:(keysOf n.cells)[aG (keysOf n.cells) k]? =some k:=by simpa using nF
   obtain⟨z,m9,yo⟩:=dO nF
   have hzl:=(List.getElem?_eq_some_iff.1 m9).1
   refine TT.skip (.seq (.seq (.region (.U hT 1 rfl (.load rfl rfl (Ld.slc hT rfl hz rfl) rfl ?_)))))
   refine OT.U hT 3 rfl (.eH 38 rfl (v:= .int .i64 (((aG (keysOf n.cells) k)+1:Nat):Int)) (int_eq (by rw[wrap_i64 (by omega) (by omega)];omega)) (.call Tryz.call149 rfl rfl rfl rfl (ax.weaken sl (Ag pQ (i:=(aG (keysOf n.cells) k)) (j:=(aG (keysOf n.cells) k)+1) (by omega) (by omega) (by omega))) ?_))
   rintro vB v_ ⟨H7,rfl,vo⟩
   obtain⟨a7,c7,rfl⟩:=(vo.row (hs:=[])).len
   have PA:(n.cells.take (aG (keysOf n.cells) k)++n.cells.drop ((aG (keysOf n.cells) k)+1)).length=n.cells.length-1:=dh hzl
   refine OT.U hT 1 rfl (.store hT rfl rfl rfl rfl pl rfl (Nat.le_of_ble_eq_true rfl) rfl (.inl (Nat.le_refl _)) rfl ?_)
   refine OT.nil (.seq (.seq (.region (.U hT 2 rfl (.load rfl rfl (Ld.af hT rfl hz rfl) rfl ?_)))))
   refine OT.U hT 1 rfl (.load rfl rfl (Ld.slc hT rfl hz rfl) rfl ?_)
   refine OT.U hT 1 rfl (.eH 46 rfl (v:= .int .i64 ((n.cells.length-1:Nat):Int)) (int_eq (by rw[PA])) ?_)
   refine OT.aR Tryz.call150 rfl rfl rfl rfl (aH.pull pl (Bt hP hQ fS (n:={n with cells:=bH n.cells (aG (keysOf n.cells) k)}) ⟨_,_,_,rfl,vo.row.there,pR.row.there.there,nj.row.there.there.there⟩ (by show(bH n.cells _).length<=1000;rw[dh hzl];omega) (by dsimp only;omega) (by dsimp only;omega) (fun c hc=>hni.fl c (Cc hc)) hno)) (fun _ _ h=>by
    obtain⟨e,H',rfl,he,rfl,⟨h1,h2⟩|h2⟩:=h
    . exact PP.of ⟨e,H',rfl,he,rfl,.inl ⟨(by rw[oe hrd hlf nF];exact a_ h1),h2⟩⟩ sl
    . exact PP.of ⟨e,H',rfl,he,rfl,.inr h2⟩ sl) ?_
   rintro JI DW ⟨H2,gn,Q2,rfl,rfl,kg,dH⟩
   refine OT.U hT 2 rfl (.nil (.seq (.ret (.iF (rs:=[.tmp 8,.tmp 9]) [_,_] (H2::r) rfl (.tmp rfl (.tmp rfl .nil)) sl ?_))))
   try dsimp only[one]
   exact⟨H2,(true,gn),Q2,rfl,rfl,by rw[oe hrd hlf nF];exact aK kg,dH⟩
 .
  have hlf:n.leaf=false:=nD
  obtain⟨kd,F0,yV,hkm⟩:=hni.b8 hlf k
  have ng:=gA n.keys k
  have hkk:=(hni.ways hlf).1
  refine TT.skip (.seq (.seq (.region (.load rfl rfl (Ld.af hT rfl hz rfl) rfl ?_))))
  refine OT.U hT 1 rfl (.call Tryz.call97 rfl rfl rfl rfl (zz ((HG _).mono fun _ _ h=>(.there (.there h))) hni hlf) ?_)
  rintro BK AM ⟨rfl,rfl⟩
  refine OT.U hT 1 rfl (.nil (.seq (.seq (.region (.U hT 2 rfl (.load rfl rfl (Ld.slc hT rfl hz rfl) rfl ?_))))))
  refine OT.U hT 1 rfl (.index hT rfl rfl rfl rfl nj.row.there.there.there.there (by omega) (by rw[Int.toNat_natCast];exact F0) rfl (fun S2 KR=> ?_))
  refine OT.load rfl rfl (KR.ct hT rfl rfl) rfl (.U hT 3 rfl (.eH 60 rfl (v:= .int .i64 ((d+1:Nat):Int)) (int_eq (by rw[wrap_i64 (by omega) (by omega)];omega)) ?_))
  refine OT.aR Tryz.call107 rfl rfl rfl rfl (aH.pull pl (ih hkm fS)) (fun _ _ h=>by
   obtain⟨e,H',rfl,he,rfl,⟨h1,h2⟩|h2⟩:=h
   . exact PP.of ⟨e,H',rfl,he,rfl,.inl ⟨ql hrd hlf (by rw[yV];exact h1),h2⟩⟩ sl
   . exact PP.of ⟨e,H',rfl,he,rfl,.inr h2⟩ sl) ?_
  rintro QD NV ⟨H2,y,Q2,rfl,rfl,qF,dH⟩
  refine OT.U hT 5 rfl (.nil (.seq (.seq (.seq (.region (.U hT 2 rfl (.nil (.seq (.cond rfl (fun nE=> ?_) (fun nE=> ?_))))))))))
  .
   have nE:y.2=false:=by simpa using nE
   refine TT.seq (.region (.U hT 3 rfl (.nil (.seq (.ret (.iF (rs:=[.tmp 8,.tmp 9]) [_,_] (H2::r) rfl (.tmp rfl (.tmp rfl .nil)) sl ?_))))))
   try dsimp only[one]
   exact⟨H2,(y.1,false),Q2,rfl,rfl,fQ hrd hlf (by rw[yV];exact qF) nE,dH⟩
  .
   have nE:y.2≠false:=by simpa using nE
   refine TT.skip (.seq (.seq (.region (.U hT 1 rfl (.load rfl rfl (Ld.slc hT rfl hz rfl) rfl ?_)))))
   refine OT.U hT 3 rfl (.eH 71 rfl (v:= .int .i64 (((bM n.keys k)+1:Nat):Int)) (int_eq (by rw[wrap_i64 (by omega) (by omega)];omega)) (.call Tryz.call151 rfl rfl rfl rfl (ax.weaken sl (Ai nj (i:=(bM n.keys k)) (j:=(bM n.keys k)+1) (by omega) (by omega) (by omega))) ?_))
   rintro BJ Ij ⟨H7,rfl,vo⟩
   obtain⟨a7,c7,rfl⟩:=(vo.row (hs:=[])).len
   have PA:(n.kids.take (bM n.keys k)++n.kids.drop ((bM n.keys k)+1)).length=n.kids.length-1:=dh (by omega)
   refine OT.U hT 1 rfl (.store hT rfl rfl rfl rfl pl rfl (Nat.le_of_ble_eq_true rfl) rfl (.inl (Nat.le_refl _)) rfl ?_)
   refine OT.nil (.seq (.cut (ι:=Value×Chunk) (fun j=>Own Go.Sx.iq 1 9 (j.1) (dm n (bM n.keys k)).keys (j.2)) (fun j=>[(0,.pointer (some ⟨b,0,none⟩)),(1,.int .i64 no),(10,.pointer (some ⟨qK,0,none⟩)),(14,.bool y.1)]) (fun j=>[(qK,blk [.bool n.leaf,.slice ac n.cells.length cc,(j.1),.slice a7 (n.kids.take (bM n.keys k)++n.kids.drop ((bM n.keys k)+1)).length c7] 159 (0,0))]::H2::KA::(j.2)::H7::r) ?_ ?_))
   .
    refine TT.seq (.region (.U hT 1 rfl (.load rfl rfl (Ld.slc hT rfl hz rfl) rfl ?_)))
    refine OT.U hT 2 rfl (.nil (.seq (.cond rfl (fun I9=> ?_) (fun I9=> ?_))))
    .
     have I9:0<n.keys.length:=by have:=of_decide_eq_true I9;omega
     refine TT.seq (.region (.U hT 4 rfl (.nil (.seq (.region (.U hT 1 rfl (.load rfl rfl (Ld.slc hT rfl hz rfl) rfl ?_)))))))
     refine OT.U hT 3 rfl (.eH 83 rfl (v:= .int .i64 (((bM n.keys k)-1:Nat):Int)) (int_eq (by rw[wrap_i64 (by omega) (by omega)];omega)) (.eH 85 rfl (v:= .int .i64 (((bM n.keys k)-1+1:Nat):Int)) (int_eq (by rw[wrap_i64 (n:=((bM n.keys k):Int)-1) (by omega) (by omega),wrap_i64 (by omega) (by omega)];omega)) (.call Tryz.call152 rfl rfl rfl rfl (ax.weaken sl (Ah pR (i:=(bM n.keys k)-1) (j:=(bM n.keys k)-1+1) (by omega) (by omega) (by omega))) ?_)))
     rintro vK pN ⟨H8,rfl,R7⟩
     obtain⟨a8,c8,rfl⟩:=(R7.row (hs:=[])).len
     refine OT.U hT 1 rfl (.store hT rfl rfl rfl rfl pl rfl (Nat.le_of_ble_eq_true rfl) rfl (.inl (Nat.le_refl _)) rfl ?_)
     refine OT.nil (.cut (_,H8) ?_ (aa.cons rfl (aa.cons rfl (aa.cons rfl (aa.cons rfl (aa.nil _))))) sl)
     . dsimp only
       unfold dm;dsimp only;rw[if_pos I9];exact R7
    .
     have I9:¬0<n.keys.length:=by have:=of_decide_eq_false I9;omega
     refine TT.skip (.cut (_,KB) ?_ (aa.cons rfl (aa.cons rfl (aa.cons rfl (aa.cons rfl (aa.nil _))))) sl)
     . dsimp only
       unfold dm;dsimp only;rw[if_neg I9];exact pR
   .
    rintro⟨Pz,K2⟩ hI
    dsimp only at hI
    have Gk:=hI
    show TT _ _ _ [(0,.pointer (some ⟨b,0,none⟩)),(1,.int .i64 no),(10,.pointer (some ⟨qK,0,none⟩)),(14,.bool y.1)] ([(qK,blk [.bool n.leaf,.slice ac n.cells.length cc,Pz,.slice a7 (n.kids.take (bM n.keys k)++n.kids.drop ((bM n.keys k)+1)).length c7] 159 (0,0))]::H2::KA::K2::H7::r)
    refine TT.seq (.region (.U hT 3 rfl (.load rfl rfl (Ld.af hT rfl hz rfl) rfl ?_)))
    refine OT.U hT 1 rfl (.load rfl rfl (Ld.slc hT rfl hz rfl) rfl ?_)
    refine OT.U hT 1 rfl (.eH 94 rfl (v:= .int .i64 ((n.kids.length-1:Nat):Int)) (int_eq (by rw[PA])) ?_)
    refine OT.aR Tryz.call150 rfl rfl rfl rfl (aH.pull pl (Bt hP hQ dH (n:=dm n (bM n.keys k)) ⟨_,_,_,rfl,pQ.row.there,Gk.row.there.there,vo.row.there.there.there⟩ (by show n.cells.length<=1000;omega) (by have:=xL n (bM n.keys k);omega) (by show(bH n.kids _).length<=_;rw[dh (by omega)];omega) hni.fl hno)) (fun _ _ h=>by
     obtain⟨e,H',rfl,he,rfl,⟨h1,h2⟩|h2⟩:=h
     . exact PP.of ⟨e,H',rfl,he,rfl,.inl ⟨(by rw[kW hrd hlf (by rw[yV];exact qF) nE];exact a_ h1),h2⟩⟩ sl
     . exact PP.of ⟨e,H',rfl,he,rfl,.inr h2⟩ sl) ?_
    rintro V9 S3 ⟨H3,gn,Q3,rfl,rfl,De,mq⟩
    refine OT.U hT 2 rfl (.nil (.seq (.ret (.iF (rs:=[.tmp 8,.tmp 9]) [_,_] (H3::r) rfl (.tmp rfl (.tmp rfl .nil)) sl ?_))))
    try dsimp only[one]
    exact⟨H3,(y.1,gn),Q3,rfl,rfl,by rw[kW hrd hlf (by rw[yV];exact qF) nE];exact aK De,mq⟩
theorem CN{b:Nat}{P:Value}{I:Chunk->Prop}{E:Int->Chunk->Prop}{Qb:ah}(hP:cM Tryz.prog 5 P I E (aI Qb))(hQ:cC Qb){k:ByteArray}:∀(f d:Nat),d+f=32->∀{Qt:ah} {H:Chunk} {r:List Chunk} {no:Int},av no->aM 110 b P I Qb Qt H->aH Tryz.prog 107 [.pointer (some ⟨b,0,none⟩),.int .i64 no,.string k,.int .i64 ((d:Nat):Int)] (H::r) (fun v' hs'=>∃H' y Q',hs'=H'::r/\v'= .tuple ⟨[.bool y.1,.bool y.2]⟩/\bC k f Qt no= .ok (y,Q')/\aM 110 b P I Qb Q' H') (dJ (fun H=>∃Q',aM 110 b P I Qb Q' H) (cD 110 b P E) (fun e=>bC k f Qt no= .error e) r):=by
 intro f
 induction f with
 |zero=>
  intro d hd Qt H r no _ hH
  obtain rfl:d=32:=by omega
  exact Am hP hQ hH
 |succ f ih=>
  intro d hd Qt H r no hno hH
  exact An hP hQ (by omega) (fun h1 h2=>ih (d+1) (by omega) h1 h2) hno hH
set_option maxHeartbeats 2000000 in
set_option maxRecDepth 100000 in
theorem CO{b:Nat}{P:Value}{I:Chunk->Prop}{E:Int->Chunk->Prop}{Qb:ah}(hP:cM Tryz.prog 5 P I E (aI Qb))(hQ:cC Qb){Qt:ah}{H:Chunk}{r:List Chunk}(hH:aM 110 b P I Qb Qt H){no:Int}(hno:av no):aH Tryz.prog 108 [.pointer (some ⟨b,0,none⟩),.int .i64 no] (H::r) (fun v' hs'=>∃H' Q',hs'=H'::r/\v'= .tuple ⟨[]⟩/\cW 32 Qt no= .ok Q'/\aM 110 b P I Qb Q' H') (dJ (fun H=>∃Q',aM 110 b P I Qb Q' H) (cD 110 b P E) (fun e=>cW 32 Qt no= .error e) r):=by
 refine aH.enter 31 Tryz.func108 rfl Tryz.ntmps108 rfl ?_
 refine TT.seq (.seq (.region (.U hT 1 rfl (.nil (.seq (.block (.loop (ι:=Nat×Int×ah×Chunk) (fun j=>(j.1)<=32/\av (j.2.1)/\cW 32 Qt no=cW (32-(j.1)) (j.2.2.1) (j.2.1)/\aM 110 b P I Qb (j.2.2.1) (j.2.2.2)) (fun j=>32-(j.1)) (fun j=>[(0,.pointer (some ⟨b,0,none⟩)),(1,.int .i64 (j.2.1)),(5,.int .i64 ((j.1):Nat))]) (fun j=>(j.2.2.2)::r) (0,no,Qt,H) ?_ (aa.cons rfl (aa.cons rfl (aa.cons rfl (aa.nil _)))) sl ?_)))))))
 . dsimp only
   exact⟨by omega,hno,rfl,hH⟩
 rintro⟨i,R8,Q1,H1⟩ hI
 dsimp only at hI
 obtain⟨hi,On,hsh,oE⟩:=hI
 show TT _ _ _ [(0,.pointer (some ⟨b,0,none⟩)),(1,.int .i64 R8),(5,.int .i64 (i:Nat))] (H1::r)
 refine TT.seq (.region (.U hT 1 rfl (.nil (.seq (.seq (.cond rfl (fun c6=> ?_) (fun c6=> ?_)))))))
 .
  have c6:=of_decide_eq_true c6
  obtain⟨f,hf⟩:∃f,32-i=f+1:=⟨31-i,by omega⟩
  rw[hf]at hsh
  have l7:=On
  unfold av at l7
  refine TT.skip (.seq (.seq (.block (.seq (.region (.U hT 1 rfl (.bU Tryz.underlying24 rfl rfl rfl rfl (.U hT 1 rfl ?_))))))))
  refine OT.aR Tryz.call95 rfl rfl rfl rfl (lE (b_ hP hQ).CZ oE (gI On)) (fun _ _ h=>by
   obtain⟨e,H',rfl,he,rfl,⟨h1,h2⟩|⟨_,e0,h2⟩⟩:=h
   . exact PP.of ⟨e,H',rfl,he,rfl,.inl ⟨(by rw[hsh];exact xM h1),_,h2⟩⟩ sl
   . exact PP.of ⟨e,H',rfl,he,rfl,.inr ⟨_,h2⟩⟩ sl) ?_
  rintro oG jX ⟨H2,K,cs,n,rfl,rfl,hN,dH,hrd⟩
  have hni:=(gS hrd).nd
  obtain⟨vc,vk,vi,KA,KB,KC,rfl,rfl,pQ,pR,nj⟩:=hN.is
  obtain⟨ac,cc,e1⟩:=(pQ.row (hs:=[])).len
  obtain⟨ak,ck,e2⟩:=(pR.row (hs:=[])).len
  obtain⟨ai,ci,e3⟩:=(nj.row (hs:=[])).len
  subst e1 e2 e3
  refine OT.perm gH (.alloc Tryz.zeroValue159 rfl rfl (fun nG=> ?_))
  refine OT.ag hT rfl rfl rfl rfl pl rfl rfl rfl (.inl (Nat.le_refl _)) ?_
  refine OT.nil (.seq (.seq (.seq (.region (.U hT 1 rfl (.load rfl rfl (Ld.one hT rfl hz rfl) rfl ?_))))))
  refine OT.U hT 1 rfl (.split 13 rfl (fun pP=> ?_) (fun pP=> ?_))
  .
   have hlf:n.leaf=true:=pP
   refine OT.U hT 5 rfl (.nil (.seq (.cond_true rfl (.ret (.iF (rs:=[]) [] (H2::r) rfl .nil sl ?_)))))
   try dsimp only[one]
   exact⟨H2,Q1,rfl,rfl,by rw[hsh];exact gD hrd (.inl hlf),dH⟩
  .
   have hlf:n.leaf=false:=pP
   have hkk:=(hni.ways hlf).1
   refine OT.U hT 1 rfl (.load rfl rfl (Ld.slc hT rfl hz rfl) rfl ?_)
   refine OT.U hT 3 rfl (.nil (.seq (.cond rfl (fun gw=> ?_) (fun gw=> ?_))))
   .
    have gw:1<n.kids.length:=by have:=of_decide_eq_true gw;omega
    refine TT.ret (.iF (rs:=[]) [] (H2::r) rfl .nil sl ?_)
    try dsimp only[one]
    exact⟨H2,Q1,rfl,rfl,by rw[hsh];exact gD hrd (.inr gw),dH⟩
   .
    have gw:¬1<n.kids.length:=by have:=of_decide_eq_false gw;omega
    have MU:¬(n.leaf=true\/1<n.kids.length):=fun h=>h.elim (fun h=>by rw[hlf]at h;cases h) gw
    obtain⟨kd,F0⟩:∃x,n.kids[0]? =some x:=⟨_,List.getElem?_eq_getElem (by omega)⟩
    have yV:n.kids.getD 0 0=kd:=by rw[List.getD_eq_getElem?_getD,F0];rfl
    have hkm:av kd:=(hni.ways hlf).2 kd (List.mem_of_getElem? F0)
    refine TT.skip (.seq (.seq (.region (.U hT 2 rfl ?_))))
    refine OT.aR Tryz.call153 rfl rfl rfl rfl (aH.pull pl (Br hP hQ dH (no:=R8) (by omega))) (fun _ _ h=>by
     obtain⟨e,H',rfl,he,rfl,⟨h1,h2⟩|h2⟩:=h
     . exact PP.of ⟨e,H',rfl,he,rfl,.inl ⟨(by rw[hsh,jR hrd MU];exact a_ h1),h2⟩⟩ sl
     . exact PP.of ⟨e,H',rfl,he,rfl,.inr h2⟩ sl) ?_
    rintro JG DU ⟨H3,Q3,rfl,rfl,U1,mq⟩
    refine OT.nil (.seq (.seq (.region (.U hT 1 rfl (.load rfl rfl (Ld.slc hT rfl hz rfl) rfl ?_)))))
    refine OT.index hT rfl rfl rfl rfl nj.row.there.there.there.there (by omega) (by exact F0) rfl (fun DV mN=> ?_)
    refine OT.load rfl rfl (mN.ct hT rfl rfl) rfl (.U hT 1 rfl (.nil (.seq (.region (.U hT 2 rfl ?_)))))
    refine OT.aR Tryz.call103 rfl rfl rfl rfl (aH.pull pl (jM hP hQ mq (.inr hkm))) (fun _ _ h=>by
     obtain⟨e,H',rfl,he,rfl,⟨h1,h2⟩|h2⟩:=h
     . exact PP.of ⟨e,H',rfl,he,rfl,.inl ⟨(by cases h1),h2⟩⟩ sl
     . exact PP.of ⟨e,H',rfl,he,rfl,.inr h2⟩ sl) ?_
    rintro JR Ix ⟨H4,rfl,rfl,nk⟩
    have QE:cW 32 Qt no=cW (32-(i+1)) (cg Q3 kd) kd:=by rw[hsh,jR hrd MU,aK U1,yV];congr 1;omega
    refine OT.nil (.blk (.seq (.region (.U hT 2 rfl (.nil (.loop (i+1,kd,cg Q3 kd,H4) ?_ ?_ (aa.cons rfl (aa.cons rfl (aa.aD rfl (by(try dsimp only);exact(int_eq (by rw[wrap_i64 (by omega) (by omega)];omega))) (aa.nil _)))) sl))))))
    . dsimp only
      exact⟨by omega,hkm,QE,nk⟩
    . dsimp only
      omega
 .
  have c6:=of_decide_eq_false c6
  have h0:32-i=0:=by omega
  rw[h0]at hsh
  refine TT.exit (.seq (.loop (.here (.seq (.region ?_)))))
  refine OT.aR Tryz.call98 rfl rfl rfl rfl (k5) (fun _ _ h=>by
   obtain⟨rfl,rfl⟩:=h
   exact PP.of ⟨8,H1,by rw[bJ (by decide)],by decide,rfl,.inl ⟨by rw[hsh];rfl,Q1,oE⟩⟩ sl) ?_
  rintro yF v8 ⟨hb,_⟩
  exact hb.elim
end Go.Proofs.YtihpkgmfkbkffaaGreat.Sx
end
section
namespace Go.Proofs.YtihpkgmfkbkffaaGreat.Sx
open Go Go.Sx Go.Pl
variable[aq]
set_option maxHeartbeats 2000000 in
set_option maxRecDepth 100000 in
theorem CP{b:Nat}{P:Value}{I:Chunk->Prop}{E:Int->Chunk->Prop}{Qb:ah}(hP:cM Tryz.prog 5 P I E (aI Qb))(hQ:cC Qb){Qs:ah}{H Z:Chunk}{r:List Chunk}(hH:aM 110 b P I Qb Qs H){F1:Nat}{caps:List Value}(hc:∀args w,(callFunc F1 args).run Tryz.prog w= .ok (.enter F1 args) w){R:ah->Chunk->Prop}{RE:Int->Prop}{ZE:Chunk->Prop}(PB:∀{bt:Nat} {Ht:Chunk} {r':List Chunk},aM 110 bt (.iface 24 (.pointer (some ⟨b,0,none⟩))) (aM 110 b P I Qb Qs) Qs Qs Ht->aH Tryz.prog F1 (.pointer (some ⟨bt,0,none⟩)::caps) (Ht::Z::r') (fun v' hs'=>∃qG Z' Q',hs'=qG::Z'::r'/\aM 110 bt (.iface 24 (.pointer (some ⟨b,0,none⟩))) (aM 110 b P I Qb Qs) Qs Q' qG/\R Q' Z') (fun v' hs'=>∃e qG Z',v'=sw e/\e≠0/\hs'=qG::Z'::r'/\ZE Z'/\((RE e/\∃Q',aM 110 bt (.iface 24 (.pointer (some ⟨b,0,none⟩))) (aM 110 b P I Qb Qs) Qs Q' qG)\/∃e0,cD 110 bt (.iface 24 (.pointer (some ⟨b,0,none⟩))) (cD 110 b P E) e0 qG))){A:Chunk}{bs bf:Nat}:aH Tryz.prog 141 [.pointer (some ⟨bs,0,none⟩),.pointer (some ⟨bf,0,none⟩)] (A::[(bs,blk [.pointer (some ⟨b,0,none⟩)] 24 (0,0))]::[(bf,blk [.func (.func F1) ⟨[]⟩ ⟨caps⟩] 173 (0,0))]::H::Z::r) (fun _ hs'=>∃dz,hs'=A::dz/\∃H' Z' Q',dz=H'::Z'::r/\R Q' Z'/\(aM 110 b P I Qb Q' H'\/cD 110 b P E 0 H')) (fun v' hs'=>∃e dz,hs'=A::dz/\v'=sw e/\∃H' Z',e≠0/\dz=H'::Z'::r/\ZE Z'/\((RE e/\aM 110 b P I Qb Qs H')\/cD 110 b P E 0 H')):=by
 refine aH.enter 33 Tryz.func141 rfl Tryz.ntmps141 rfl ?_
 obtain⟨ti,ui,U2⟩:=hP.iface
 refine TT.seq (.region (.load rfl rfl (Ld.one hT rfl hz rfl) rfl ?_))
 refine OT.U hT 1 rfl (.call Tryz.call118 rfl rfl rfl rfl (cT) ?_)
 rintro C_ qI ⟨rfl,rfl⟩
 refine OT.nil (.seq (.seq (.region (.load rfl rfl (Ld.one hT rfl hz rfl) rfl ?_))))
 refine OT.bU Tryz.underlying24 rfl rfl rfl rfl (.call Tryz.call15 rfl rfl rfl rfl (ax.pull pl (zo (ti:=24) (ui:= .pointer (some ⟨b,0,none⟩)) hH)) ?_)
 rintro oH iV ⟨bt,Ht,rfl,rfl,LO⟩
 refine OT.U hT 1 rfl (.nil (.seq (.seq (.region (.load rfl rfl (Ld.one hT rfl hz rfl) rfl ?_)))))
 refine OT.U hT 1 rfl ?_
 refine OT.J2 hc rfl rfl rfl rfl (aH.weaken sl (PB ⟨_,LO,rfl⟩)) (fun _ _ h=>by
  obtain⟨e,qG,Z',rfl,he,rfl,hZ,⟨hr,Q',m,⟨mb,M,G,rfl,_,_,hG⟩,_⟩|⟨_,m,mb,M,G,rfl,_,_,_,hG⟩⟩:=h
  . exact PP.of ⟨e,_,rfl,rfl,G,Z',he,rfl,hZ,.inl ⟨hr,hG⟩⟩ (.split (.split (.drop (.drop sl))))
  . exact PP.of ⟨e,_,rfl,rfl,G,Z',he,rfl,hZ,.inr hG⟩ (.split (.split (.drop (.drop sl))))) ?_
 rintro Dp wh ⟨qG,Z',Q',rfl,O0,hR⟩
 obtain⟨m,hm,rfl⟩:=O0
 refine OT.nil (.seq (.seq (.region (.U hT 1 rfl (.call Tryz.call47 rfl rfl rfl rfl (ax.pull pl (sr (bd:=false) (b_ hP hQ) (hH.pT hQ) hm)) ?_)))))
 rintro uh pI ⟨bd,ts,HI,Xf,rfl,PC,hU,_,sE,yp,yl⟩
 have yU:=hm.may
 obtain⟨Xg,M2,G2,rfl,_,_,U3⟩:=hU.is
 refine OT.perm wY ?_
 obtain⟨m0,hm0,yS⟩:=E6 U3
 have F2:∀hs,l_ (HI::hs) uh ts:=fun hs=>PC.at (by omega) (fun t ht=>by have:=(yp t.FR (List.mem_map.2 ⟨t,ht,rfl⟩)).2;show t.b.length<=_;have e:t.FR.2=t.b:=rfl;rw[e]at this;omega)
 obtain⟨R9,fy,rfl⟩:=(F2 []).row.len
 refine OT.U hT 2 rfl (.nil (.seq (.block (.loop (ι:=Nat×oO×Chunk) (fun j=>(j.1)<=ts.length/\iu 110 b P (St I E bd) (j.2.1) (j.2.2)/\(bd=false->de Qb (j.2.1)=lay Qs ((iM ts).take (j.1)))) (fun j=>ts.length-(j.1)) (fun j=>[(0,.pointer (some ⟨bs,0,none⟩)),(16,.slice R9 ts.length fy),(17,.int .i64 (ts.length:Nat)),(18,.int .i64 ((j.1):Nat))]) (fun j=>HI::(j.2.2)::A::[(bs,blk [.pointer (some ⟨b,0,none⟩)] 24 (0,0))]::Z'::r) (0,m0,G2) ?_ (aa.cons rfl (aa.cons rfl (aa.cons rfl (aa.cons rfl (aa.nil _))))) sl ?_))))
 . dsimp only
   exact⟨Nat.zero_le _,hm0,fun h=>by rw[yS h];rfl⟩
 rintro⟨i,m1,G1⟩ hI
 dsimp only at hI
 obtain⟨hi,oz,nB⟩:=hI
 show TT _ _ _ [(0,.pointer (some ⟨bs,0,none⟩)),(16,.slice R9 ts.length fy),(17,.int .i64 (ts.length:Nat)),(18,.int .i64 (i:Nat))] (HI::G1::A::[(bs,blk [.pointer (some ⟨b,0,none⟩)] 24 (0,0))]::Z'::r)
 refine TT.seq (.region (.U hT 1 rfl (.nil (.seq (.seq (.cond rfl (fun uo=> ?_) (fun uo=> ?_)))))))
 .
  have uo:=of_decide_eq_true uo
  obtain⟨x,hx⟩:=nth (l:=ts) (i:=i) (by omega)
  have L6:=List.mem_of_getElem? hx
  have Lv:=yp x.FR (List.mem_map.2 ⟨x,L6,rfl⟩)
  refine TT.skip (.seq (.seq (.block (.seq (.region (.index hT rfl rfl rfl rfl (F2 _).row (by omega) (by rw[Int.toNat_natCast];exact hx) rfl (fun NW zA=> ?_)))))))
  refine OT.load rfl rfl (zA.cy hT rfl) rfl (.alloc Tryz.zeroValue143 rfl rfl (fun nG=> ?_))
  refine OT.ag hT rfl rfl rfl rfl pl rfl rfl (Bc (F2 []) L6) (.inl (Nat.le_refl _)) ?_
  refine OT.nil (.seq (.seq (.region (.load rfl rfl (Ld.one hT rfl hz rfl) rfl ?_))))
  refine OT.U hT 1 rfl (.load rfl rfl (Ld.one hT rfl hz rfl) rfl ?_)
  refine OT.U hT 1 rfl (.load rfl rfl (Ld.slc hT rfl hz rfl) rfl ?_)
  refine OT.call Tryz.call109 rfl rfl rfl rfl (ax.pull pl (Bp U2 oz (((F2 _).each x L6).there) (by have h2:=Lv.2;have e:x.FR.2=x.b:=rfl;rw[e]at h2;omega))) ?_
  rintro BF wj ⟨G3,rfl,⟨hno,_⟩|⟨_,hno,_⟩|⟨_,_,rfl,OV⟩⟩
  .
   exact absurd Lv.1 hno
  .
   exact absurd Lv.2 hno
  .
   refine OT.U hT 1 rfl (.nil (.seq (.region (.U hT 3 rfl (.call Tryz.call118 rfl rfl rfl rfl (cT) ?_)))))
   rintro V_ S4 ⟨rfl,rfl⟩
   refine OT.nil (.blk (.seq (.region (.U hT 2 rfl (.nil (.loop (i+1,vq m1 x.no x.b,G3) ?_ ?_ (aa.cons rfl (aa.cons rfl (aa.cons rfl (aa.aD rfl (by(try dsimp only);exact(int_eq (by rw[wrap_i64 (by omega) (by omega)];omega))) (aa.nil _))))) sl))))))
   . dsimp only
     exact⟨by omega,OV,fun h=>by rw[wL,nB h,wX (A4 hx)];rfl⟩
   . dsimp only
     omega
 .
  have uo:=of_decide_eq_false uo
  obtain rfl:i=ts.length:=by omega
  rw[List.take_of_length_le (by rw[p5];exact Nat.le_refl _)]at nB
  refine TT.exit (.seq (.loop (.here (.iF (rs:=[]) [] (A::G1::Z'::r) rfl .nil sl ?_))))
  try dsimp only[one]
  exact⟨_,rfl,G1,Z',_,rfl,hR,Kj oz (fun h=>by rw[nB h,sE h];exact nS yU)⟩
set_option maxHeartbeats 1000000 in
set_option maxRecDepth 100000 in
theorem xx{b:Nat}{P:Value}{I:Chunk->Prop}{E:Int->Chunk->Prop}{Qb:ah}(hP:cM Tryz.prog 5 P I E (aI Qb))(hQ:cC Qb){Qs:ah}{H Z:Chunk}{r:List Chunk}(hH:aM 110 b P I Qb Qs H){F1:Nat}{caps:List Value}(hc:∀args w,(callFunc F1 args).run Tryz.prog w= .ok (.enter F1 args) w){R:ah->Chunk->Prop}{RE:Int->Prop}{ZE:Chunk->Prop}(PB:∀{bt:Nat} {Ht:Chunk} {r':List Chunk},aM 110 bt (.iface 24 (.pointer (some ⟨b,0,none⟩))) (aM 110 b P I Qb Qs) Qs Qs Ht->aH Tryz.prog F1 (.pointer (some ⟨bt,0,none⟩)::caps) (Ht::Z::r') (fun v' hs'=>∃qG Z' Q',hs'=qG::Z'::r'/\aM 110 bt (.iface 24 (.pointer (some ⟨b,0,none⟩))) (aM 110 b P I Qb Qs) Qs Q' qG/\R Q' Z') (fun v' hs'=>∃e qG Z',v'=sw e/\e≠0/\hs'=qG::Z'::r'/\ZE Z'/\((RE e/\∃Q',aM 110 bt (.iface 24 (.pointer (some ⟨b,0,none⟩))) (aM 110 b P I Qb Qs) Qs Q' qG)\/∃e0,cD 110 bt (.iface 24 (.pointer (some ⟨b,0,none⟩))) (cD 110 b P E) e0 qG))):ax Tryz.prog 100 [.pointer (some ⟨b,0,none⟩),.func (.func F1) ⟨[]⟩ ⟨caps⟩] (H::Z::r) (fun v' dz=>(v'= .int .i64 0/\∃H' Z' Q',dz=H'::Z'::r/\R Q' Z'/\(aM 110 b P I Qb Q' H'\/cD 110 b P E 0 H'))\/∃e,v'= .int .i64 e/\∃H' Z',e≠0/\dz=H'::Z'::r/\ZE Z'/\((RE e/\aM 110 b P I Qb Qs H')\/cD 110 b P E 0 H')):=by
 refine ax.enter 7 Tryz.func100 rfl Tryz.ntmps100 rfl ?_
 refine TT.seq (.region (.box rfl rfl rfl (fun b_2=> ?_)))
 refine OT.box rfl rfl rfl (fun jt=> ?_)
 refine OT.U hT 1 rfl (.nil (.seq (.seq (.region (.U hT 1 rfl (.call Tryz.call84 rfl rfl rfl rfl ((lZ (N:=fun _ dz=>∃H' Z' Q',dz=H'::Z'::r/\R Q' Z'/\(aM 110 b P I Qb Q' H'\/cD 110 b P E 0 H')) (E:=fun e dz=>∃H' Z',e≠0/\dz=H'::Z'::r/\ZE Z'/\((RE e/\aM 110 b P I Qb Qs H')\/cD 110 b P E 0 H')) Tryz.call141 (fun A=>aH.weaken (by repeat(first|exact aZ.refl _|refine aZ.pull (by repeat(first|exact aO.head|apply aO.tail)) ?_)) (CP (A:=A) hP hQ hH hc PB)))) ?_))))))
 rintro IV vz h5
 refine OT.U hT 1 rfl (.nil (.seq (.ret (.of (rs:=[.tmp 4]) [_] vz rfl (.tmp rfl .nil) (.refl _) ?_))))
 try dsimp only[one]
 rcases h5 with⟨rfl,_,h⟩|⟨e,rfl,h⟩
 . exact .inl ⟨rfl,h⟩
 . exact .inr ⟨e,rfl,h⟩
end Go.Proofs.YtihpkgmfkbkffaaGreat.Sx
end
section
namespace Go.Proofs.YtihpkgmfkbkffaaGreat.Sx
open Go Go.Sx Go.Pl
variable[aq]
set_option maxHeartbeats 2000000 in
set_option maxRecDepth 100000 in
theorem G7{b:Nat}{P:Value}{I:Chunk->Prop}{E:Int->Chunk->Prop}{Qb:ah}(hP:cM Tryz.prog 5 P I E (aI Qb))(hQ:cC Qb){Qt:ah}{H:Chunk}{r:List Chunk}(hH:aM 110 b P I Qb Qt H){x:Cell}(hx:aA x=true)(fR:x.val.f<2^64/\x.new.f<2^64){bc:Nat}:aH Tryz.prog 101 [.pointer (some ⟨b,0,none⟩),.pointer (some ⟨bc,0,none⟩)] (H::[(bc,blk (aj x) 113 (0,0))]::r) (fun v' hs'=>∃H' Z' Q',hs'=H'::Z'::r/\aM 110 b P I Qb Q' H'/\dA Qt x= .ok Q') (fun v' hs'=>∃e H' Z',v'=sw e/\e≠0/\hs'=H'::Z'::r/\True/\((dA Qt x= .error e/\(fun H=>∃Q',aM 110 b P I Qb Q' H) H')\/∃e0,cD 110 b P E e0 H')):=by
 refine aH.enter 45 Tryz.func101 rfl Tryz.ntmps101 rfl ?_
 refine TT.seq (.region (.U hT 1 rfl (.bU Tryz.underlying24 rfl rfl rfl rfl ?_)))
 refine OT.aR Tryz.call94 rfl rfl rfl rfl (qA (b_ hP hQ).CZ hH) (fun _ _ h=>by
  obtain⟨e,H',rfl,he,rfl,⟨h1,h2⟩|⟨_,e0,h2⟩⟩:=h
  . exact PP.of ⟨e,H',[(bc,blk (aj x) 113 (0,0))],rfl,he,rfl,trivial,.inl ⟨zS h1,_,h2⟩⟩ sl
  . exact PP.of ⟨e,H',[(bc,blk (aj x) 113 (0,0))],rfl,he,rfl,trivial,.inr ⟨_,h2⟩⟩ sl) ?_
 rintro C_ qI ⟨H1,no,rfl,rfl,fS,js⟩
 have l7:=jj js
 refine OT.U hT 1 rfl (.nil (.seq (.seq (.seq (.region (.U hT 2 rfl (.nil (.seq (.cond rfl (fun c_=> ?_) (fun c_=> ?_))))))))))
 .
  have c_:no=0:=by simpa using c_
  refine TT.seq (.region (.U hT 1 rfl ?_))
  refine OT.aR Tryz.call102 rfl rfl rfl rfl (uW hP hQ fS) (fun _ _ h=>by
   obtain⟨e,H',rfl,he,rfl,⟨h1,h2⟩|h2⟩:=h
   . exact PP.of ⟨e,H',[(bc,blk (aj x) 113 (0,0))],rfl,he,rfl,trivial,.inl ⟨(by rw[jF js c_];exact a_ h1),h2⟩⟩ sl
   . exact PP.of ⟨e,H',[(bc,blk (aj x) 113 (0,0))],rfl,he,rfl,trivial,.inr h2⟩ sl) ?_
  rintro JO S5 ⟨H2,n2,Q2,rfl,rfl,ki,dH⟩
  have hto:=ru ki
  refine OT.U hT 1 rfl (.nil (.seq (.seq (.region (.U hT 2 rfl ?_)))))
  refine OT.aR Tryz.call103 rfl rfl rfl rfl (jM hP hQ dH (no:=n2) (.inr hto)) (fun _ _ h=>by
   obtain⟨e,H',rfl,he,rfl,⟨h1,h2⟩|h2⟩:=h
   . exact PP.of ⟨e,H',[(bc,blk (aj x) 113 (0,0))],rfl,he,rfl,trivial,.inl ⟨(by cases h1),h2⟩⟩ sl
   . exact PP.of ⟨e,H',[(bc,blk (aj x) 113 (0,0))],rfl,he,rfl,trivial,.inr h2⟩ sl) ?_
  rintro Ds wq ⟨H3,rfl,rfl,mq⟩
  refine OT.nil (.seq (.seq (.region (.U hT 2 rfl (.load rfl rfl (Ld.af hT rfl hz rfl) rfl ?_)))))
  refine OT.buildSlice (enc:=aj) (xs:=[x]) (ij:=[.tmp 18]) iU rfl rfl rfl rfl rfl (by simp[Value.cells];rfl) (fun _ _=>rfl) rfl (by decide) rfl (fun uf vC nA=> ?_)
  obtain⟨R1,uo,rfl⟩:=(nA.row (hs:=[])).len
  refine OT.build (cs:=[.bool true,.slice R1 [x].length uo,.slice none 0 0,.slice none 0 0]) hT rfl Tryz.zeroValue159 rfl rfl rfl rfl ?_
  refine OT.aR Tryz.call104 rfl rfl rfl rfl (aH.pull pl (oM hP hQ mq (n:=⟨true,[x],[],[]⟩) ⟨_,_,_,rfl,nA.row,Row.nil,Row.nil⟩ (by simp) (by simp) (by simp) (fun c hc=>by rw[List.mem_singleton]at hc;subst hc;exact fR) (jc hto))) (fun _ _ h=>by
   obtain⟨e,H',rfl,he,rfl,⟨h1,h2⟩|h2⟩:=h
   . exact PP.of ⟨e,H',[(bc,blk (aj x) 113 (0,0))],rfl,he,rfl,trivial,.inl ⟨(by rw[jF js c_];exact(aK ki).trans h1),h2⟩⟩ sl
   . exact PP.of ⟨e,H',[(bc,blk (aj x) 113 (0,0))],rfl,he,rfl,trivial,.inr h2⟩ sl) ?_
  rintro JG DU ⟨H4,Q4,rfl,rfl,HF,nk⟩
  refine OT.nil (.seq (.ret (.iF (rs:=[]) [] (H4::[(bc,blk (aj x) 113 (0,0))]::r) rfl .nil sl ?_)))
  try dsimp only[one]
  exact⟨H4,_,Q4,rfl,nk,by rw[jF js c_];exact(aK ki).trans HF⟩
 .
  have c_:no≠0:=by simpa using c_
  have l7:=l7.resolve_left c_
  refine TT.skip (.seq (.seq (.region (.U hT 2 rfl (.load rfl rfl (Ld.af hT rfl hz rfl) rfl ?_)))))
  refine OT.aR Tryz.call105 rfl rfl rfl rfl (CM hP hQ hx fR 32 0 rfl l7 fS) (fun _ _ h=>by
   obtain⟨e,H',rfl,he,rfl,⟨h1,h2⟩|h2⟩:=h
   . exact PP.of ⟨e,H',[(bc,blk (aj x) 113 (0,0))],rfl,he,rfl,trivial,.inl ⟨(by rw[lO js c_];exact a_ h1),h2⟩⟩ sl
   . exact PP.of ⟨e,H',[(bc,blk (aj x) 113 (0,0))],rfl,he,rfl,trivial,.inr h2⟩ sl) ?_
  rintro sI NX ⟨H2,y,Q2,rfl,rfl,qF,dH⟩
  refine OT.alloc Tryz.zeroValue171 rfl rfl (fun nG=> ?_)
  refine OT.ag hT rfl rfl rfl rfl pl rfl rfl rfl (.inl (Nat.le_refl _)) ?_
  refine OT.nil (.seq (.seq (.region (.U hT 1 rfl (.load rfl rfl (Ld.one hT rfl hz rfl) rfl ?_)))))
  refine OT.U hT 1 rfl (.nil (.seq (.cond rfl (fun ko=> ?_) (fun ko=> ?_))))
  .
   have ko:y.2≠0:=by simpa using ko
   refine TT.seq (.region (.U hT 1 rfl ?_))
   refine OT.aR Tryz.call102 rfl rfl rfl rfl (aH.pull pl (uW hP hQ dH)) (fun _ _ h=>by
    obtain⟨e,H',rfl,he,rfl,⟨h1,h2⟩|h2⟩:=h
    . exact PP.of ⟨e,H',[(bc,blk (aj x) 113 (0,0))],rfl,he,rfl,trivial,.inl ⟨(by rw[jG js c_ qF ko];exact a_ h1),h2⟩⟩ sl
    . exact PP.of ⟨e,H',[(bc,blk (aj x) 113 (0,0))],rfl,he,rfl,trivial,.inr h2⟩ sl) ?_
   rintro yF v8 ⟨H3,n3,Q3,rfl,rfl,FN,mq⟩
   have hto:=ru FN
   refine OT.U hT 1 rfl (.nil (.seq (.seq (.region (.U hT 3 rfl (.load rfl rfl (Ld.one hT rfl hz rfl) rfl ?_))))))
   refine OT.buildSlice (enc:=Go.Sx.iq) (xs:=[y.1]) (ij:=[.tmp 34]) qH rfl rfl rfl rfl rfl (by simp[Value.cells]) (fun _ _=>rfl) rfl (by decide) rfl (fun JF MV AO=> ?_)
   refine OT.U hT 2 rfl (.load rfl rfl (Ld.one hT rfl hz rfl) rfl ?_)
   refine OT.buildSlice (enc:=Go.Sx.cZ) (xs:=[no,y.2]) (ij:=[.tmp 36,.tmp 38]) j3 rfl rfl rfl rfl rfl (by simp[Value.cells]) (fun _ _=>rfl) rfl (by decide) rfl (fun vB MA v7=> ?_)
   obtain⟨U4,U5,rfl⟩:=(AO.row (hs:=[])).len
   obtain⟨U6,Dc,rfl⟩:=(v7.row (hs:=[])).len
   refine OT.build (cs:=[.bool false,.slice none 0 0,.slice U4 [y.1].length U5,.slice U6 [no,y.2].length Dc]) hT rfl Tryz.zeroValue159 rfl rfl rfl rfl ?_
   refine OT.aR Tryz.call104 rfl rfl rfl rfl (aH.pull pl (oM hP hQ mq (n:=⟨false,[],[y.1],[no,y.2]⟩) ⟨_,_,_,rfl,Row.nil,AO.row.there,v7.row⟩ (by simp) (by simp) (by simp) (fun _ hc=>by cases hc) (jc hto))) (fun _ _ h=>by
    obtain⟨e,H',rfl,he,rfl,⟨h1,h2⟩|h2⟩:=h
    . exact PP.of ⟨e,H',[(bc,blk (aj x) 113 (0,0))],rfl,he,rfl,trivial,.inl ⟨(by rw[jG js c_ qF ko];exact(aK FN).trans (a_ h1)),h2⟩⟩ sl
    . exact PP.of ⟨e,H',[(bc,blk (aj x) 113 (0,0))],rfl,he,rfl,trivial,.inr h2⟩ sl) ?_
   rintro JB DS ⟨H4,Q4,rfl,rfl,HF,nk⟩
   refine OT.nil (.seq (.region (.U hT 2 rfl ?_)))
   refine OT.aR Tryz.call103 rfl rfl rfl rfl (aH.pull pl (jM hP hQ nk (no:=n3) (.inr hto))) (fun _ _ h=>by
    obtain⟨e,H',rfl,he,rfl,⟨h1,h2⟩|h2⟩:=h
    . exact PP.of ⟨e,H',[(bc,blk (aj x) 113 (0,0))],rfl,he,rfl,trivial,.inl ⟨(by cases h1),h2⟩⟩ sl
    . exact PP.of ⟨e,H',[(bc,blk (aj x) 113 (0,0))],rfl,he,rfl,trivial,.inr h2⟩ sl) ?_
   rintro vE s0 ⟨H5,rfl,rfl,U7⟩
   refine OT.nil (.iF (rs:=[]) [] (H5::[(bc,blk (aj x) 113 (0,0))]::r) rfl .nil sl ?_)
   try dsimp only[one]
   exact⟨H5,_,_,rfl,U7,by rw[jG js c_ qF ko];exact(aK FN).trans (aK HF)⟩
  .
   have ko:y.2=0:=by simpa using ko
   refine TT.skip (.iF (rs:=[]) [] (H2::[(bc,blk (aj x) 113 (0,0))]::r) rfl .nil sl ?_)
   try dsimp only[one]
   exact⟨H2,_,Q2,rfl,dH,mT js c_ qF ko⟩
set_option maxHeartbeats 1000000 in
set_option maxRecDepth 100000 in
theorem zB{b:Nat}{P:Value}{I:Chunk->Prop}{E:Int->Chunk->Prop}{Qb:ah}(hP:cM Tryz.prog 5 P I E (aI Qb))(hQ:cC Qb){Qs:ah}{H:Chunk}{r:List Chunk}(hH:aM 110 b P I Qb Qs H){x:Cell}(fR:x.val.f<2^64/\x.new.f<2^64):ax Tryz.prog 54 [.pointer (some ⟨b,0,none⟩),.agg ⟨aj x⟩] (H::r) (fun v' hs'=>∃H' e,hs'=H'::r/\v'= .int .i64 e/\((aA x=false/\e=1/\aM 110 b P I Qb Qs H')\/(aA x=true/\((∃Q',e=0/\dA Qs x= .ok Q'/\aM 110 b P I Qb Q' H')\/(e≠0/\dA Qs x= .error e/\aM 110 b P I Qb Qs H')\/cD 110 b P E 0 H')))):=by
 refine ax.enter 11 Tryz.func54 rfl Tryz.ntmps54 rfl ?_
 refine TT.seq (.region (.box rfl rfl rfl (fun jt=> ?_)))
 refine OT.U hT 1 rfl (.nil (.seq (.seq (.seq (.region (.load rfl rfl (Ld.af hT rfl hz rfl) rfl ?_))))))
 refine OT.call Tryz.call99 rfl rfl rfl rfl (uD) ?_
 rintro IV vz ⟨rfl,rfl⟩
 refine OT.U hT 1 rfl (.nil (.seq (.cond rfl (fun c7=> ?_) (fun c7=> ?_))))
 .
  have c7:aA x=false:=by simpa using c7
  refine TT.seq (.region (.U hT 1 rfl (.nil (.seq (.ret (.of (rs:=[.tmp 4]) [_] (H::r) rfl (.tmp rfl .nil) sl ?_))))))
  try dsimp only[one]
  exact⟨H,1,rfl,rfl,.inl ⟨c7,rfl,hH⟩⟩
 .
  have c7:aA x=true:=by simpa using c7
  refine TT.skip (.seq (.seq (.region (.U hT 2 rfl (.call Tryz.call100 rfl rfl rfl rfl (ax.weaken sl (xx hP hQ hH (R:=fun Q' _=>dA Qs x= .ok Q') (RE:=fun e=>dA Qs x= .error e) (ZE:=fun _=>True) (Z:=[(jt,blk (aj x) 113 (0,0))]) Tryz.call101 (fun hT=>G7 (b_ hP hQ) (hH.pT hQ) hT c7 fR))) ?_)))))
  rintro oG jX (⟨rfl,H',Z',Q',rfl,hR,hS⟩|⟨e,rfl,H',Z',he,rfl,_,hS⟩)
  .
   refine OT.U hT 1 rfl (.nil (.seq (.ret (.of (rs:=[.tmp 4]) [_] (H'::r) rfl (.tmp rfl .nil) sl ?_))))
   try dsimp only[one]
   refine⟨H',0,rfl,rfl,.inr ⟨c7,?_⟩⟩
   rcases hS with hS|hS
   . exact .inl ⟨Q',rfl,hR,hS⟩
   . exact .inr (.inr hS)
  .
   refine OT.U hT 1 rfl (.nil (.seq (.ret (.of (rs:=[.tmp 4]) [_] (H'::r) rfl (.tmp rfl .nil) sl ?_))))
   try dsimp only[one]
   refine⟨H',e,rfl,rfl,.inr ⟨c7,?_⟩⟩
   rcases hS with⟨h1,h2⟩|hS
   . exact .inr (.inl ⟨he,h1,h2⟩)
   . exact .inr (.inr hS)
set_option maxHeartbeats 2000000 in
set_option maxRecDepth 100000 in
theorem G8{b:Nat}{P:Value}{I:Chunk->Prop}{E:Int->Chunk->Prop}{Qb:ah}(hP:cM Tryz.prog 5 P I E (aI Qb))(hQ:cC Qb){Qt:ah}{H:Chunk}{r:List Chunk}(hH:aM 110 b P I Qb Qt H){k:ByteArray}{bk bh:Nat}:aH Tryz.prog 106 [.pointer (some ⟨b,0,none⟩),.pointer (some ⟨bk,0,none⟩),.pointer (some ⟨bh,0,none⟩)] (H::[(bk,blk [.string k] 9 (0,0))]::[(bh,blk [.bool false] 4 (0,0))]::r) (fun v' hs'=>∃H' has Q',hs'=H'::[(bk,blk [.string k] 9 (0,0))]::[(bh,blk [.bool has] 4 (0,0))]::r/\aM 110 b P I Qb Q' H'/\cV Qt k= .ok (has,Q')) (fun v' hs'=>∃e H' has,v'=sw e/\e≠0/\hs'=H'::[(bk,blk [.string k] 9 (0,0))]::[(bh,blk [.bool has] 4 (0,0))]::r/\((cV Qt k= .error e/\(fun H=>∃Q',aM 110 b P I Qb Q' H) H')\/∃e0,cD 110 b P E e0 H')):=by
 refine aH.enter 25 Tryz.func106 rfl Tryz.ntmps106 rfl ?_
 refine TT.seq (.region (.U hT 1 rfl (.bU Tryz.underlying24 rfl rfl rfl rfl ?_)))
 refine OT.aR Tryz.call94 rfl rfl rfl rfl (qA (b_ hP hQ).CZ hH) (fun _ _ h=>by
  obtain⟨e,H',rfl,he,rfl,⟨h1,h2⟩|⟨_,e0,h2⟩⟩:=h
  . exact PP.of ⟨e,H',false,rfl,he,rfl,.inl ⟨zT h1,_,h2⟩⟩ sl
  . exact PP.of ⟨e,H',false,rfl,he,rfl,.inr ⟨_,h2⟩⟩ sl) ?_
 rintro C_ qI ⟨H1,no,rfl,rfl,fS,js⟩
 have l7:=jj js
 refine OT.U hT 1 rfl (.nil (.seq (.seq (.seq (.region (.U hT 2 rfl (.nil (.seq (.cond rfl (fun c_=> ?_) (fun c_=> ?_))))))))))
 .
  have c_:no=0:=by simpa using c_
  refine TT.ret (.iF (rs:=[]) [] (H1::[(bk,blk [.string k] 9 (0,0))]::[(bh,blk [.bool false] 4 (0,0))]::r) rfl .nil sl ?_)
  try dsimp only[one]
  exact⟨H1,false,Qt,rfl,fS,qa js c_⟩
 .
  have c_:no≠0:=by simpa using c_
  have l7:=l7.resolve_left c_
  refine TT.skip (.seq (.seq (.region (.U hT 1 rfl (.nil (.seq (.seq (.region (.U hT 2 rfl (.load rfl rfl (Ld.one hT rfl hz rfl) rfl ?_))))))))))
  refine OT.aR Tryz.call107 rfl rfl rfl rfl (aH.pull pl (CN hP hQ 32 0 rfl l7 fS)) (fun _ _ h=>by
   obtain⟨e,H',rfl,he,rfl,⟨h1,h2⟩|h2⟩:=h
   . exact PP.of ⟨e,H',false,rfl,he,rfl,.inl ⟨(by rw[lP js c_];exact a_ h1),h2⟩⟩ sl
   . exact PP.of ⟨e,H',false,rfl,he,rfl,.inr h2⟩ sl) ?_
  rintro Ds wq ⟨H2,y,Q2,rfl,rfl,kg,dH⟩
  refine OT.U hT 3 rfl (.store hT rfl rfl rfl rfl pl rfl (Nat.le_of_ble_eq_true rfl) rfl (.inl (Nat.le_refl _)) rfl ?_)
  refine OT.U hT 1 rfl (.nil (.seq (.seq (.region (.U hT 1 rfl (.nil (.seq (.cond rfl (fun gw=> ?_) (fun gw=> ?_)))))))))
  .
   refine TT.region (.U hT 1 rfl ?_)
   refine OT.aR Tryz.call103 rfl rfl rfl rfl (aH.pull pl (jM hP hQ dH (no:=0) (.inl rfl))) (fun _ _ h=>by
    obtain⟨e,H',rfl,he,rfl,⟨h1,h2⟩|h2⟩:=h
    . exact PP.of ⟨e,H',y.1,rfl,he,rfl,.inl ⟨(by cases h1),h2⟩⟩ sl
    . exact PP.of ⟨e,H',y.1,rfl,he,rfl,.inr h2⟩ sl) ?_
   rintro ug qR ⟨H3,rfl,rfl,mq⟩
   refine OT.nil (.iF (rs:=[]) [] (H3::[(bk,blk [.string k] 9 (0,0))]::[(bh,blk [.bool y.1] 4 (0,0))]::r) rfl .nil sl ?_)
   try dsimp only[one]
   exact⟨H3,y.1,_,rfl,mq,qb js c_ kg gw⟩
  .
   refine TT.seq (.region (.load rfl rfl (Ld.one hT rfl hz rfl) rfl ?_))
   refine OT.nil (.seq (.cond rfl (fun ef=> ?_) (fun ef=> ?_)))
   .
    refine TT.region (.U hT 2 rfl ?_)
    refine OT.aR Tryz.call108 rfl rfl rfl rfl (aH.pull pl (CO hP hQ dH l7)) (fun _ _ h=>by
     obtain⟨e,H',rfl,he,rfl,⟨h1,h2⟩|h2⟩:=h
     . exact PP.of ⟨e,H',y.1,rfl,he,rfl,.inl ⟨(by rw[mU js c_ kg gw ef];exact a_ h1),h2⟩⟩ sl
     . exact PP.of ⟨e,H',y.1,rfl,he,rfl,.inr h2⟩ sl) ?_
    rintro BI sZ ⟨H3,Q3,rfl,rfl,FN,mq⟩
    refine OT.nil (.iF (rs:=[]) [] (H3::[(bk,blk [.string k] 9 (0,0))]::[(bh,blk [.bool y.1] 4 (0,0))]::r) rfl .nil sl ?_)
    try dsimp only[one]
    exact⟨H3,y.1,Q3,rfl,mq,by rw[mU js c_ kg gw ef,ef];exact aK FN⟩
   .
    refine TT.skip (.iF (rs:=[]) [] (H2::[(bk,blk [.string k] 9 (0,0))]::[(bh,blk [.bool y.1] 4 (0,0))]::r) rfl .nil sl ?_)
    try dsimp only[one]
    exact⟨H2,y.1,Q2,rfl,dH,by rw[r6 js c_ kg gw ef,ef]⟩
theorem Fu{f:Nat}{vs:List Value}{hs r':List Chunk}{k:ByteArray}{bk bh:Nat}{Qs:ah}{S:ah->Chunk->Prop}{SB:Int->Chunk->Prop}(h:aH Tryz.prog f vs hs (fun v' hs'=>∃H' has Q',hs'=H'::[(bk,blk [.string k] 9 (0,0))]::[(bh,blk [.bool has] 4 (0,0))]::r'/\S Q' H'/\cV Qs k= .ok (has,Q')) (fun v' hs'=>∃e H' has,v'=sw e/\e≠0/\hs'=H'::[(bk,blk [.string k] 9 (0,0))]::[(bh,blk [.bool has] 4 (0,0))]::r'/\((cV Qs k= .error e/\∃Q',S Q' H')\/∃e0,SB e0 H'))):aH Tryz.prog f vs hs (fun v' hs'=>∃qG Z' Q',hs'=qG::Z'::r'/\S Q' qG/\(∃has,Z'=[(bk,blk [.string k] 9 (0,0))]++[(bh,blk [.bool has] 4 (0,0))]/\cV Qs k= .ok (has,Q'))) (fun v' hs'=>∃e qG Z',v'=sw e/\e≠0/\hs'=qG::Z'::r'/\(∃has,Z'=[(bk,blk [.string k] 9 (0,0))]++[(bh,blk [.bool has] 4 (0,0))])/\((cV Qs k= .error e/\∃Q',S Q' qG)\/∃e0,SB e0 qG)):=aH.y9 h
 (fun _ _ ⟨H',has,Q',e,h1,h2⟩=>by subst e;exact⟨_,⟨H',_,Q',rfl,h1,has,rfl,h2⟩,ji.symm⟩)
 (fun _ _ ⟨e,H',has,e1,he,e2,h⟩=>by subst e2;exact⟨_,⟨e,H',_,e1,he,rfl,⟨has,rfl⟩,h⟩,ji.symm⟩)
set_option maxHeartbeats 2000000 in
set_option maxRecDepth 100000 in
theorem zC{b:Nat}{P:Value}{I:Chunk->Prop}{E:Int->Chunk->Prop}{Qb:ah}(hP:cM Tryz.prog 5 P I E (aI Qb))(hQ:cC Qb){Qs:ah}{H:Chunk}{r:List Chunk}(hH:aM 110 b P I Qb Qs H){k:ByteArray}:ax Tryz.prog 56 [.pointer (some ⟨b,0,none⟩),.string k] (H::r) (fun v' hs'=>∃H' has e,hs'=H'::r/\v'= .tuple ⟨[.bool has,.int .i64 e]⟩/\((∃Q',e=0/\cV Qs k= .ok (has,Q')/\aM 110 b P I Qb Q' H')\/(e≠0/\has=false/\cV Qs k= .error e/\aM 110 b P I Qb Qs H')\/((e≠0->has=false)/\cD 110 b P E 0 H'))):=by
 refine ax.enter 17 Tryz.func56 rfl Tryz.ntmps56 rfl ?_
 refine TT.seq (.region (.box rfl rfl rfl (fun jt=> ?_)))
 refine OT.U hT 2 rfl (.nil (.seq (.seq (.region (.alloc Tryz.zeroValue4 rfl rfl (fun gB=> ?_))))))
 refine OT.ag hT rfl rfl rfl rfl pl rfl rfl rfl (.inl (Nat.le_refl _)) ?_
 refine OT.nil (.seq (.seq (.region (.U hT 2 rfl (.perm (E7 (X:=[(gB,blk [.bool false] 4 (0,0))]) (Y:=[(jt,blk [.string k] 9 (0,0))]) (H:=H) (rest:=r)) (.call Tryz.call100 rfl rfl rfl rfl (ax.weaken sl (xx hP hQ hH (R:=fun Q' Z'=>∃has,Z'=[(jt,blk [.string k] 9 (0,0))]++[(gB,blk [.bool has] 4 (0,0))]/\cV Qs k= .ok (has,Q')) (RE:=fun e=>cV Qs k= .error e) (ZE:=fun Z'=>∃has,Z'=[(jt,blk [.string k] 9 (0,0))]++[(gB,blk [.bool has] 4 (0,0))]) (Z:=[(jt,blk [.string k] 9 (0,0))]++[(gB,blk [.bool false] 4 (0,0))]) Tryz.call106 (fun hT=>Fu (aH.perm ji (G8 (k:=k) (bk:=jt) (bh:=gB) (b_ hP hQ) (hH.pT hQ) hT))))) ?_))))))
 rintro oG jX (⟨rfl,H',Z',Q',rfl,⟨has,rfl,hR⟩,hS⟩|⟨e,rfl,H',Z',he,rfl,⟨has,rfl⟩,hS⟩)
 .
  refine OT.perm ji (.U hT 1 rfl (.nil (.seq (.seq (.region (.load rfl rfl (Ld.one hT rfl hz rfl) rfl ?_))))))
  refine OT.U hT 1 rfl (.split 12 rfl (fun L7=> ?_) (fun L7=> ?_))
  .
   refine OT.U hT 6 rfl (.nil (.seq (.ret (.of (rs:=[.tmp 4,.tmp 5]) [_,_] (H'::r) rfl (.tmp rfl (.tmp rfl .nil)) sl ?_))))
   try dsimp only[one]
   refine⟨H',has,0,rfl,(by subst L7;rfl),?_⟩
   rcases hS with hS|hS
   . exact .inl ⟨Q',rfl,hR,hS⟩
   . exact .inr (.inr ⟨fun h=>absurd rfl h,hS⟩)
  .
   refine OT.U hT 6 rfl (.nil (.seq (.ret (.of (rs:=[.tmp 4,.tmp 5]) [_,_] (H'::r) rfl (.tmp rfl (.tmp rfl .nil)) sl ?_))))
   try dsimp only[one]
   refine⟨H',has,0,rfl,(by subst L7;rfl),?_⟩
   rcases hS with hS|hS
   . exact .inl ⟨Q',rfl,hR,hS⟩
   . exact .inr (.inr ⟨fun h=>absurd rfl h,hS⟩)
 .
  refine OT.perm ji (.U hT 1 rfl (.nil (.seq (.seq (.region (.load rfl rfl (Ld.one hT rfl hz rfl) rfl ?_))))))
  refine OT.U hT 1 rfl (.split 12 rfl (fun L7=> ?_) (fun L7=> ?_))
  .
   refine OT.U hT 6 rfl (.nil (.seq (.ret (.of (rs:=[.tmp 4,.tmp 5]) [_,_] (H'::r) rfl (.tmp rfl (.tmp rfl .nil)) sl ?_))))
   try dsimp only[one]
   refine⟨H',false,e,rfl,(by first|rfl|exact congrArg (fun z=>Value.tuple ⟨[.bool z,.int .i64 e]⟩) (by simpa using he)),?_⟩
   rcases hS with⟨h1,h2⟩|hS
   . exact .inr (.inl ⟨he,rfl,h1,h2⟩)
   . exact .inr (.inr ⟨fun _=>rfl,hS⟩)
  .
   refine OT.U hT 6 rfl (.nil (.seq (.ret (.of (rs:=[.tmp 4,.tmp 5]) [_,_] (H'::r) rfl (.tmp rfl (.tmp rfl .nil)) sl ?_))))
   try dsimp only[one]
   refine⟨H',false,e,rfl,(by first|rfl|exact congrArg (fun z=>Value.tuple ⟨[.bool z,.int .i64 e]⟩) (by simpa using he)),?_⟩
   rcases hS with⟨h1,h2⟩|hS
   . exact .inr (.inl ⟨he,rfl,h1,h2⟩)
   . exact .inr (.inr ⟨fun _=>rfl,hS⟩)
end Go.Proofs.YtihpkgmfkbkffaaGreat.Sx
end
section
namespace Go.Proofs.YtihpkgmfkbkffaaGreat.Sx
open Go Go.Sx Go.Pl
variable[aq]
set_option maxHeartbeats 2000000 in
set_option maxRecDepth 100000 in
theorem G9{P:Value}{I:Chunk->Prop}{E:Int->Chunk->Prop}{pg:Pg}{H:Chunk}{r:List Chunk}(hP:nC Tryz.prog 5 P I E pg)(hI:I H){k:ByteArray}{A:Chunk}{bt bk bh bc:Nat}:aH Tryz.prog 93 [.pointer (some ⟨bt,0,none⟩),.pointer (some ⟨bk,0,none⟩),.pointer (some ⟨bh,0,none⟩),.pointer (some ⟨bc,0,none⟩)] (A::[(bt,blk [P] 107 (0,0))]::[(bk,blk [.string k] 9 (0,0))]::[(bh,blk [.bool false] 4 (0,0))]::[(bc,blk (aj noCell) 113 (0,0))]::H::r) (fun _ hs'=>∃dz,hs'=A::dz/\∃o H',getTop pg k= .ok o/\I H'/\dz=[(bt,blk [P] 107 (0,0))]::[(bk,blk [.string k] 9 (0,0))]::[(bh,blk [.bool o.isSome] 4 (0,0))]::[(bc,blk (aj (o.getD noCell)) 113 (0,0))]::H'::r) (fun v' hs'=>∃e dz,hs'=A::dz/\v'=sw e/\e≠0/\∃H',dz=[(bt,blk [P] 107 (0,0))]::[(bk,blk [.string k] 9 (0,0))]::[(bh,blk [.bool false] 4 (0,0))]::[(bc,blk (aj noCell) 113 (0,0))]::H'::r/\((getTop pg k= .error e/\I H')\/∃e0,E e0 H')):=by
 refine aH.enter 39 Tryz.func93 rfl Tryz.ntmps93 rfl ?_
 refine TT.seq (.region (.load rfl rfl (Ld.one hT rfl hz rfl) rfl ?_))
 refine OT.aR Tryz.call94 rfl rfl rfl rfl (aH.pull pl (qA hP hI)) (fun _ _ h=>by
  obtain⟨e,H',rfl,he,rfl,⟨h1,h2⟩|⟨e0,h2⟩⟩:=h
  . exact PP.of ⟨e,_,rfl,rfl,he,H',rfl,.inl ⟨zU h1,h2⟩⟩ sl
  . exact PP.of ⟨e,_,rfl,rfl,he,H',rfl,.inr ⟨e0,h2⟩⟩ sl) ?_
 rintro C_ qI ⟨H1,no,rfl,rfl,fS,js⟩
 have l7:=jj js
 refine OT.U hT 1 rfl (.nil (.seq (.seq (.seq (.region (.U hT 1 rfl (.nil (.seq (.block (.loop (ι:=Nat×Int×Chunk) (fun j=>(j.1)<=32/\((j.2.1)=0\/av (j.2.1))/\I (j.2.2)/\getTop pg k=pU pg k (32-(j.1)) (j.2.1)) (fun j=>32-(j.1)) (fun j=>[(0,.pointer (some ⟨bt,0,none⟩)),(1,.pointer (some ⟨bk,0,none⟩)),(2,.pointer (some ⟨bh,0,none⟩)),(3,.pointer (some ⟨bc,0,none⟩)),(4,.int .i64 (j.2.1)),(9,.int .i64 ((j.1):Nat))]) (fun j=>A::[(bt,blk [P] 107 (0,0))]::[(bk,blk [.string k] 9 (0,0))]::[(bh,blk [.bool false] 4 (0,0))]::[(bc,blk (aj noCell) 113 (0,0))]::(j.2.2)::r) (0,no,H1) ?_ (aa.cons rfl (aa.cons rfl (aa.cons rfl (aa.cons rfl (aa.cons rfl (aa.cons rfl (aa.nil _))))))) sl ?_))))))))))
 . dsimp only
   exact⟨by omega,l7,fS,oY js⟩
 rintro⟨i,no,H1⟩ hI
 dsimp only at hI
 obtain⟨hi,l7,fS,hgt⟩:=hI
 show TT _ _ _ [(0,.pointer (some ⟨bt,0,none⟩)),(1,.pointer (some ⟨bk,0,none⟩)),(2,.pointer (some ⟨bh,0,none⟩)),(3,.pointer (some ⟨bc,0,none⟩)),(4,.int .i64 no),(9,.int .i64 (i:Nat))] (A::[(bt,blk [P] 107 (0,0))]::[(bk,blk [.string k] 9 (0,0))]::[(bh,blk [.bool false] 4 (0,0))]::[(bc,blk (aj noCell) 113 (0,0))]::H1::r)
 refine TT.seq (.region (.U hT 1 rfl (.nil (.seq (.seq (.cond rfl (fun c_=> ?_) (fun c_=> ?_)))))))
 .
  have c_:=of_decide_eq_true c_
  obtain⟨f,hf⟩:∃f,32-i=f+1:=⟨32-i-1,by omega⟩
  have hf':32-(i+1)=f:=by omega
  refine TT.skip (.seq (.seq (.block (.seq (.seq (.region (.U hT 2 rfl (.nil (.seq (.cond rfl (fun ew=> ?_) (fun ew=> ?_)))))))))))
  .
   have ew:no=0:=by simpa using ew
   refine TT.ret (.iF (rs:=[]) [] (A::[(bt,blk [P] 107 (0,0))]::[(bk,blk [.string k] 9 (0,0))]::[(bh,blk [.bool false] 4 (0,0))]::[(bc,blk (aj noCell) 113 (0,0))]::H1::r) rfl .nil sl ?_)
   try dsimp only[one]
   exact⟨_,rfl,none,H1,by rw[hgt,hf];exact tg ew,fS,rfl⟩
  .
   have ew:no≠0:=by simpa using ew
   have hno:=l7.resolve_left ew
   refine TT.skip (.seq (.seq (.region (.load rfl rfl (Ld.one hT rfl hz rfl) rfl ?_))))
   refine OT.U hT 1 rfl ?_
   refine OT.aR Tryz.call95 rfl rfl rfl rfl (aH.pull pl (lE hP fS (gI hno))) (fun _ _ h=>by
    obtain⟨e,H',rfl,he,rfl,⟨h1,h2⟩|⟨e0,h2⟩⟩:=h
    . exact PP.of ⟨e,_,rfl,rfl,he,H',rfl,.inl ⟨(by rw[hgt,hf];exact E8 ew h1),h2⟩⟩ sl
    . exact PP.of ⟨e,_,rfl,rfl,he,H',rfl,.inr ⟨e0,h2⟩⟩ sl) ?_
   rintro Ds wq ⟨H2,K,cs,n,rfl,rfl,hN,dH,hrd⟩
   have hni:=(gS hrd).nd
   have hnc:=hni.cells
   have hnk:=hni.keys
   have hnd:=hni.kids
   obtain⟨vc,vk,vi,KA,KB,KC,rfl,rfl,pQ,pR,nj⟩:=hN.is
   obtain⟨ac,cc,e1⟩:=(pQ.row (hs:=[])).len
   obtain⟨ak,ck,e2⟩:=(pR.row (hs:=[])).len
   obtain⟨ai,ci,e3⟩:=(nj.row (hs:=[])).len
   subst e1 e2 e3
   refine OT.perm gH ?_
   have HG:∀hs,fJ (KA::KB::KC::hs) [.bool n.leaf,.slice ac n.cells.length cc,.slice ak n.keys.length ck,.slice ai n.kids.length ci] n:=fun hs=>⟨_,_,_,rfl,pQ.row,pR.row.there,nj.row.there.there⟩
   refine OT.alloc Tryz.zeroValue159 rfl rfl (fun eM=> ?_)
   refine OT.ag hT rfl rfl rfl rfl pl rfl rfl rfl (.inl (Nat.le_refl _)) ?_
   refine OT.nil (.seq (.seq (.seq (.region (.U hT 1 rfl (.load rfl rfl (Ld.one hT rfl hz rfl) rfl ?_))))))
   refine OT.nil (.seq (.cond rfl (fun fC=> ?_) (fun fC=> ?_)))
   .
    have hlf:n.leaf=true:=fC
    refine TT.seq (.region (.U hT 1 rfl (.nil (.seq (.seq (.seq (.region (.load rfl rfl (Ld.af hT rfl hz rfl) rfl ?_))))))))
    refine OT.load rfl rfl (Ld.one hT rfl hz rfl) rfl ?_
    refine OT.call Tryz.call96 rfl rfl rfl rfl (uU ((HG _).mono fun _ _ h=>(.there (.there h))) (by omega) hni.fq) ?_
    rintro JG DU ⟨rfl,rfl⟩
    refine OT.U hT 4 rfl (.store hT rfl rfl rfl rfl pl rfl (Nat.le_of_ble_eq_true rfl) rfl (.inl (Nat.le_refl _)) rfl ?_)
    refine OT.nil (.seq (.seq (.region (.load rfl rfl (Ld.one hT rfl hz rfl) rfl ?_))))
    refine OT.nil (.seq (.cond rfl (fun mG=> ?_) (fun mG=> ?_)))
    .
     have mG:=of_decide_eq_true mG
     obtain⟨z,m9,yo⟩:=dO mG
     refine TT.region (.U hT 1 rfl (.load rfl rfl (Ld.slc hT rfl hz rfl) rfl ?_))
     refine OT.U hT 1 rfl (.index hT rfl rfl rfl rfl pQ.row.there.there.there (by omega) (by rw[Int.toNat_natCast];exact m9) rfl (fun Iy ri=> ?_))
     refine OT.load rfl rfl (ri.cy hT rfl) rfl (.store hT rfl rfl rfl rfl pl rfl (Nat.le_of_ble_eq_true rfl) rfl (.inl (Nat.le_refl _)) rfl ?_)
     refine OT.nil (.seq (.ret (.iF (rs:=[]) [] (A::[(bt,blk [P] 107 (0,0))]::[(bk,blk [.string k] 9 (0,0))]::[(bh,blk [.bool (decide ((keysOf n.cells)[(aG (keysOf n.cells) k)]? =some k))] 4 (0,0))]::[(bc,blk (aj z) 113 (0,0))]::H2::r) rfl .nil sl ?_)))
     try dsimp only[one]
     have e:=decide_eq_true mG
     exact⟨_,rfl,some z,H2,by rw[hgt,hf,oX ew hrd hlf,th m9 yo],dH,by rw[e];rfl⟩
    .
     have mG:=of_decide_eq_false mG
     refine TT.skip (.seq (.ret (.iF (rs:=[]) [] (A::[(bt,blk [P] 107 (0,0))]::[(bk,blk [.string k] 9 (0,0))]::[(bh,blk [.bool (decide ((keysOf n.cells)[(aG (keysOf n.cells) k)]? =some k))] 4 (0,0))]::[(bc,blk (aj noCell) 113 (0,0))]::H2::r) rfl .nil sl ?_)))
     try dsimp only[one]
     have e:=decide_eq_false mG
     exact⟨_,rfl,none,H2,by rw[hgt,hf,oX ew hrd hlf,iD mG],dH,by rw[e];rfl⟩
   .
    have hlf:n.leaf=false:=fC
    obtain⟨kd,F0,yV,hkm⟩:=hni.b8 hlf k
    have ng:=gA n.keys k
    have hkk:=(hni.ways hlf).1
    refine TT.skip (.seq (.draw (([(eM,blk [.bool n.leaf,.slice ac n.cells.length cc,.slice ak n.keys.length ck,.slice ai n.kids.length ci] 159 (0,0))]::KC::[(bk,blk [.string k] 9 (0,0))]::r)) mixed (.takes (fuel:=7) hT [0] kr kr rfl (.take (fuel:=6) hT 1 rfl rfl kr kr kr rfl (.load rfl (Ld.slc hT rfl hz rfl)) rfl ?_))))
    refine AT.take (fuel:=5) hT 2 rfl rfl kr kr kr rfl (.load rfl (Ld.af hT rfl hz rfl)) rfl ?_
    refine AT.take (fuel:=4) hT 3 rfl rfl kr kr kr rfl (.load rfl (Ld.one hT rfl hz rfl)) rfl ?_
    refine AT.op (fuel:=3) 4 kr rfl sl (.call Tryz.call97 rfl rfl rfl rfl (zz ((HG _).mono fun _ _ h=>(.there (.there h))) hni hlf) ?_)
    rintro BG we ⟨rfl,rfl⟩
    refine OT.nil (.any (.index (fuel:=2) hT 5 rfl kr kr kr rfl rfl rfl rfl nj.row.there (by omega) (by rw[Int.toNat_natCast];exact F0) rfl (fun wA gR=> ?_)))
    refine AT.take (fuel:=1) hT 6 rfl rfl kr kr kr rfl (.load rfl (gR.ct hT rfl rfl)) rfl (.takes (fuel:=0) hT [7] kr kr rfl (.done kr sl (.blk (.seq (.region (.U hT 2 rfl (.nil (.loop (i+1,kd,H2) ?_ ?_ (aa.cons rfl (aa.cons rfl (aa.cons rfl (aa.cons rfl (aa.cons rfl (aa.aD rfl (by(try dsimp only);exact(int_eq (by rw[wrap_i64 (by omega) (by omega)];omega))) (aa.nil _))))))) sl))))))))
    . dsimp only
      exact⟨by omega,.inr hkm,dH,by rw[hf',hgt,hf,wZ ew hrd hlf,yV]⟩
    . dsimp only
      omega
 .
  have c_:=of_decide_eq_false c_
  obtain rfl:i=32:=by omega
  refine TT.exit (.seq (.loop (.here (.seq (.region ?_)))))
  refine OT.aR Tryz.call98 rfl rfl rfl rfl (k5) (fun _ _ h=>by
   obtain⟨rfl,rfl⟩:=h
   exact PP.of ⟨8,_,rfl,by rw[bJ (by decide)],by decide,H1,rfl,.inl ⟨by rw[hgt];rfl,fS⟩⟩ sl) ?_
  rintro sJ AL ⟨hb,_⟩
  exact hb.elim
set_option maxHeartbeats 2000000 in
set_option maxRecDepth 100000 in
theorem Er{P:Value}{I:Chunk->Prop}{E:Int->Chunk->Prop}{pg:Pg}{H:Chunk}{r:List Chunk}(hP:nC Tryz.prog 5 P I E pg)(hI:I H){k:ByteArray}:ax Tryz.prog 53 [P,.string k] (H::r) (fun v' hs'=>∃H' o e,hs'=H'::r/\v'= .tuple ⟨[.agg ⟨aj (o.getD noCell)⟩,.bool o.isSome,.int .i64 e]⟩/\((e=0/\getTop pg k= .ok o/\I H')\/(e≠0/\o=none/\((getTop pg k= .error e/\I H')\/∃e0,E e0 H')))):=by
 refine ax.enter 12 Tryz.func53 rfl Tryz.ntmps53 rfl ?_
 obtain⟨ti,ui,L8⟩:=hP.iface
 subst L8
 refine TT.seq (.region (.box rfl rfl rfl (fun b_2=> ?_)))
 refine OT.box rfl rfl rfl (fun jt=> ?_)
 refine OT.alloc Tryz.zeroValue113 rfl rfl (fun nG=> ?_)
 refine OT.alloc Tryz.zeroValue4 rfl rfl (fun eM=> ?_)
 refine OT.U hT 1 rfl (.nil (.seq (.seq (.region (.U hT 1 rfl (.call Tryz.call84 rfl rfl rfl rfl ((lZ (N:=fun _ dz=>∃o H',getTop pg k= .ok o/\I H'/\dz=[(b_2,blk [.iface ti ui] 107 (0,0))]::[(jt,blk [.string k] 9 (0,0))]::[(eM,blk [.bool o.isSome] 4 (0,0))]::[(nG,blk (aj (o.getD noCell)) 113 (0,0))]::H'::r) (E:=fun e dz=>e≠0/\∃H',dz=[(b_2,blk [.iface ti ui] 107 (0,0))]::[(jt,blk [.string k] 9 (0,0))]::[(eM,blk [.bool false] 4 (0,0))]::[(nG,blk (aj noCell) 113 (0,0))]::H'::r/\((getTop pg k= .error e/\I H')\/∃e0,E e0 H')) Tryz.call93 (fun A=>aH.weaken (by repeat(first|exact aZ.refl _|refine aZ.pull (by repeat(first|exact aO.head|apply aO.tail)) ?_)) (G9 (A:=A) (k:=k) (bt:=b_2) (bk:=jt) (bh:=eM) (bc:=nG) hP hI)))) ?_))))))
 rintro C_ qI (⟨rfl,_,o,H',hgt,yu,rfl⟩|⟨e,rfl,he,H',rfl,mw⟩)
 .
  refine OT.U hT 1 rfl (.nil (.seq (.seq (.draw (r) mixed (.takes (fuel:=5) hT [2] kr kr rfl (.all (fuel:=4) [0,1] kr (by decide) sl ?_))))))
  intro i hi
  simp only[List.mem_cons,List.not_mem_nil,or_false]at hi
  rcases hi with rfl|rfl
  .
   refine⟨_,rfl,?_⟩
   refine OT.load rfl rfl (Ld.af hT rfl hz rfl) rfl ?_
   refine OT.nil (.any (.all (fuel:=3) [1,3] kr (by decide) sl ?_))
   intro i hi
   simp only[List.mem_cons,List.not_mem_nil,or_false]at hi
   rcases hi with rfl|rfl
   .
    refine⟨_,rfl,?_⟩
    refine OT.load rfl rfl (Ld.one hT rfl hz rfl) rfl ?_
    refine OT.nil (.any (.op (fuel:=2) 3 kr rfl sl (.ag hT rfl rfl rfl rfl pl rfl rfl rfl (.inl (Nat.le_refl _)) ?_)))
    refine OT.nil (.any (.op (fuel:=1) 4 kr rfl sl (.ag hT rfl rfl rfl rfl pl rfl rfl rfl (.inl (Nat.le_refl _)) ?_)))
    refine OT.nil (.any (.takes (fuel:=0) hT [5] kr kr rfl (.done kr sl (.seq (.ret (.of (rs:=[.cell 4 113,.cell 5 4,.tmp 6]) [_,_,_] (H'::r) rfl (.cell rfl (Ld.af hT rfl hz rfl) (.cell rfl (Ld.one hT rfl hz rfl) (.tmp rfl .nil))) sl ?_))))))
    try dsimp only[one]
    exact⟨H',o,0,rfl,rfl,.inl ⟨rfl,hgt,yu⟩⟩
   .
    refine⟨_,rfl,?_⟩
    refine OT.ag hT rfl rfl rfl rfl pl rfl rfl rfl (.inl (Nat.le_refl _)) ?_
    refine OT.nil (.any (.op (fuel:=2) 1 kr rfl sl (.load rfl rfl (Ld.one hT rfl hz rfl) rfl ?_)))
    refine OT.nil (.any (.op (fuel:=1) 4 kr rfl sl (.ag hT rfl rfl rfl rfl pl rfl rfl rfl (.inl (Nat.le_refl _)) ?_)))
    refine OT.nil (.any (.takes (fuel:=0) hT [5] kr kr rfl (.done kr sl (.seq (.ret (.of (rs:=[.cell 4 113,.cell 5 4,.tmp 6]) [_,_,_] (H'::r) rfl (.cell rfl (Ld.af hT rfl hz rfl) (.cell rfl (Ld.one hT rfl hz rfl) (.tmp rfl .nil))) sl ?_))))))
    try dsimp only[one]
    exact⟨H',o,0,rfl,rfl,.inl ⟨rfl,hgt,yu⟩⟩
  .
   refine⟨_,rfl,?_⟩
   refine OT.load rfl rfl (Ld.one hT rfl hz rfl) rfl ?_
   refine OT.nil (.any (.op (fuel:=3) 0 kr rfl sl (.load rfl rfl (Ld.af hT rfl hz rfl) rfl ?_)))
   refine OT.nil (.any (.op (fuel:=2) 3 kr rfl sl (.ag hT rfl rfl rfl rfl pl rfl rfl rfl (.inl (Nat.le_refl _)) ?_)))
   refine OT.nil (.any (.op (fuel:=1) 4 kr rfl sl (.ag hT rfl rfl rfl rfl pl rfl rfl rfl (.inl (Nat.le_refl _)) ?_)))
   refine OT.nil (.any (.takes (fuel:=0) hT [5] kr kr rfl (.done kr sl (.seq (.ret (.of (rs:=[.cell 4 113,.cell 5 4,.tmp 6]) [_,_,_] (H'::r) rfl (.cell rfl (Ld.af hT rfl hz rfl) (.cell rfl (Ld.one hT rfl hz rfl) (.tmp rfl .nil))) sl ?_))))))
   try dsimp only[one]
   exact⟨H',o,0,rfl,rfl,.inl ⟨rfl,hgt,yu⟩⟩
 .
  refine OT.U hT 1 rfl (.nil (.seq (.seq (.draw (r) mixed (.takes (fuel:=5) hT [2] kr kr rfl (.all (fuel:=4) [0,1] kr (by decide) sl ?_))))))
  intro i hi
  simp only[List.mem_cons,List.not_mem_nil,or_false]at hi
  rcases hi with rfl|rfl
  .
   refine⟨_,rfl,?_⟩
   refine OT.load rfl rfl (Ld.af hT rfl hz rfl) rfl ?_
   refine OT.nil (.any (.all (fuel:=3) [1,3] kr (by decide) sl ?_))
   intro i hi
   simp only[List.mem_cons,List.not_mem_nil,or_false]at hi
   rcases hi with rfl|rfl
   .
    refine⟨_,rfl,?_⟩
    refine OT.load rfl rfl (Ld.one hT rfl hz rfl) rfl ?_
    refine OT.nil (.any (.op (fuel:=2) 3 kr rfl sl (.ag hT rfl rfl rfl rfl pl rfl rfl rfl (.inl (Nat.le_refl _)) ?_)))
    refine OT.nil (.any (.op (fuel:=1) 4 kr rfl sl (.ag hT rfl rfl rfl rfl pl rfl rfl rfl (.inl (Nat.le_refl _)) ?_)))
    refine OT.nil (.any (.takes (fuel:=0) hT [5] kr kr rfl (.done kr sl (.seq (.ret (.of (rs:=[.cell 4 113,.cell 5 4,.tmp 6]) [_,_,_] (H'::r) rfl (.cell rfl (Ld.af hT rfl hz rfl) (.cell rfl (Ld.one hT rfl hz rfl) (.tmp rfl .nil))) sl ?_))))))
    try dsimp only[one]
    exact⟨H',none,e,rfl,rfl,.inr ⟨he,rfl,mw⟩⟩
   .
    refine⟨_,rfl,?_⟩
    refine OT.ag hT rfl rfl rfl rfl pl rfl rfl rfl (.inl (Nat.le_refl _)) ?_
    refine OT.nil (.any (.op (fuel:=2) 1 kr rfl sl (.load rfl rfl (Ld.one hT rfl hz rfl) rfl ?_)))
    refine OT.nil (.any (.op (fuel:=1) 4 kr rfl sl (.ag hT rfl rfl rfl rfl pl rfl rfl rfl (.inl (Nat.le_refl _)) ?_)))
    refine OT.nil (.any (.takes (fuel:=0) hT [5] kr kr rfl (.done kr sl (.seq (.ret (.of (rs:=[.cell 4 113,.cell 5 4,.tmp 6]) [_,_,_] (H'::r) rfl (.cell rfl (Ld.af hT rfl hz rfl) (.cell rfl (Ld.one hT rfl hz rfl) (.tmp rfl .nil))) sl ?_))))))
    try dsimp only[one]
    exact⟨H',none,e,rfl,rfl,.inr ⟨he,rfl,mw⟩⟩
  .
   refine⟨_,rfl,?_⟩
   refine OT.load rfl rfl (Ld.one hT rfl hz rfl) rfl ?_
   refine OT.nil (.any (.op (fuel:=3) 0 kr rfl sl (.load rfl rfl (Ld.af hT rfl hz rfl) rfl ?_)))
   refine OT.nil (.any (.op (fuel:=2) 3 kr rfl sl (.ag hT rfl rfl rfl rfl pl rfl rfl rfl (.inl (Nat.le_refl _)) ?_)))
   refine OT.nil (.any (.op (fuel:=1) 4 kr rfl sl (.ag hT rfl rfl rfl rfl pl rfl rfl rfl (.inl (Nat.le_refl _)) ?_)))
   refine OT.nil (.any (.takes (fuel:=0) hT [5] kr kr rfl (.done kr sl (.seq (.ret (.of (rs:=[.cell 4 113,.cell 5 4,.tmp 6]) [_,_,_] (H'::r) rfl (.cell rfl (Ld.af hT rfl hz rfl) (.cell rfl (Ld.one hT rfl hz rfl) (.tmp rfl .nil))) sl ?_))))))
   try dsimp only[one]
   exact⟨H',none,e,rfl,rfl,.inr ⟨he,rfl,mw⟩⟩
end Go.Proofs.YtihpkgmfkbkffaaGreat.Sx
end
section
namespace Go.Proofs.YtihpkgmfkbkffaaGreat.Sx
open Go Go.Sx Go.Pl
variable[aq]
set_option maxHeartbeats 1000000 in
set_option maxRecDepth 100000 in
theorem CQ{v:Value}{l:List Int}{x:Int}{hs:List Chunk}(hr:Row Go.Sx.cZ 1 hs v l)(hl:l.length<=1000000):ax Tryz.prog 159 [v,.int .i64 x] hs (fun v' hs'=>(∃i:Int,v'= .int .i64 i/\decide (0<=i)=decide (x∈l))/\hs=hs'):=by
 refine ax.enter 19 Tryz.func159 rfl Tryz.ntmps159 rfl ?_
 obtain⟨a0,c0,hv⟩:=hr.len
 subst hv
 refine TT.seq (.region (.U hT 1 rfl (.nil (.seq (.seq (.seq (.region (.U hT 3 rfl (.nil (.seq (.block (.loop (ι:=Nat) (fun j=>(j)<=l.length/\x∉l.take (j)) (fun j=>l.length-(j)) (fun j=>[(0,.slice a0 l.length c0),(1,.int .i64 x),(7,.int .i64 (l.length:Nat)),(8,.int .i64 ((j):Nat))]) (fun j=>hs) (0) ?_ (aa.cons rfl (aa.cons rfl (aa.cons rfl (aa.cons rfl (aa.nil _))))) sl ?_))))))))))))
 . exact⟨Nat.zero_le _,by simp⟩
 rintro i ⟨hi,hn⟩
 show TT _ _ _ [(0,.slice a0 l.length c0),(1,.int .i64 x),(7,.int .i64 (l.length:Nat)),(8,.int .i64 (i:Nat))] (hs)
 refine TT.seq (.region (.U hT 1 rfl (.nil (.seq (.seq (.cond rfl (fun c9=> ?_) (fun c9=> ?_)))))))
 .
  have c9:=of_decide_eq_true c9
  obtain⟨y,hy⟩:=nth (l:=l) (i:=i) (by omega)
  refine TT.skip (.seq (.seq (.block (.seq (.region (.U hT 2 rfl (.nil (.seq (.seq (.region (.U hT 3 rfl (.index hT rfl rfl rfl rfl hr (by omega) (by rw[Int.toNat_natCast];exact hy) rfl (fun Nt zi=> ?_)))))))))))))
  refine OT.load rfl rfl (zi.ct hT rfl rfl) rfl (.U hT 1 rfl (.nil (.seq (.cond rfl (fun fy=> ?_) (fun fy=> ?_)))))
  .
   have fy:x=y:=by simpa using fy
   refine TT.seq (.region (.U hT 2 rfl (.nil (.seq (.ret (.of (rs:=[.tmp 4]) [_] hs rfl (.tmp rfl .nil) sl ?_))))))
   try dsimp only[one]
   refine⟨⟨(i:Nat),rfl,?_⟩,rfl⟩
   subst fy
   exact decide_eq_decide.2 ⟨fun _=>List.mem_of_getElem? hy,fun _=>by omega⟩
  .
   have fy:¬x=y:=by simpa using fy
   refine TT.skip (.blk (.seq (.region (.U hT 2 rfl (.nil (.loop (i+1) ?_ ?_ (aa.cons rfl (aa.cons rfl (aa.cons rfl (aa.aD rfl (by(try dsimp only);exact(int_eq (by rw[wrap_i64 (by omega) (by omega)];omega))) (aa.nil _))))) sl))))))
   . exact⟨by omega,by rw[List.take_add_one,hy];simp only[Option.toList_some,List.mem_append,List.mem_singleton];exact fun h=>h.elim hn fy⟩
   . omega
 .
  have c9:=of_decide_eq_false c9
  obtain rfl:i=l.length:=by omega
  rw[List.take_of_length_le (Nat.le_refl _)]at hn
  refine TT.exit (.seq (.loop (.here (.seq (.seq (.region (.U hT 1 rfl (.nil (.seq (.ret (.of (rs:=[.tmp 4]) [_] hs rfl (.tmp rfl .nil) sl ?_)))))))))))
  try dsimp only[one]
  exact⟨⟨-1,rfl,decide_eq_decide.2 ⟨fun h=>by omega,fun h=>absurd h hn⟩⟩,rfl⟩
set_option maxHeartbeats 1000000 in
set_option maxRecDepth 100000 in
theorem ot{v:Value}{l:List Int}{x:Int}{hs:List Chunk}(hr:Row Go.Sx.cZ 1 hs v l)(hl:l.length<=1000000):ax Tryz.prog 119 [v,.int .i64 x] hs (fun v' hs'=>v'= .bool (decide (x∈l))/\hs=hs'):=by
 refine ax.enter 9 Tryz.func119 rfl Tryz.ntmps119 rfl ?_
 refine TT.seq (.region (.U hT 1 rfl (.nil (.seq (.seq (.region (.U hT 2 rfl (.call Tryz.call159 rfl rfl rfl rfl (CQ hr hl) ?_))))))))
 rintro C9 sG ⟨⟨i,rfl,hi⟩,rfl⟩
 refine OT.U hT 2 rfl (.nil (.seq (.ret (.of (rs:=[.tmp 4]) [_] hs rfl (.tmp rfl .nil) sl ?_))))
 try dsimp only[one]
 exact⟨congrArg Value.bool hi,rfl⟩
set_option maxHeartbeats 4000000 in
set_option maxRecDepth 100000 in
theorem x8{P:Value}{I:Chunk->Prop}{E:Int->Chunk->Prop}{pg:Pg}(hP:nC Tryz.prog 5 P I E pg){bw:Nat}{f:Nat}(ih:∀{st:az} {vn vc:Value} {H K1 K2:Chunk} {r:List Chunk} {no:Int},av no->32<=st.1.length+f->st.1.length<=32->st.2.length<=256*st.1.length->I H->Own Go.Sx.cZ 1 3 vn st.1 K1->Own aj 8 113 vc st.2 K2->aH Tryz.prog 156 [.pointer (some ⟨bw,0,none⟩),.int .i64 no] (H::[(bw,blk [P,vn,vc] 182 (0,0))]::K1::K2::r) (fun v' hs'=>∃H' yW yX yY yZ g,hs'=H'::[(bw,blk [P,yW,yX] 182 (0,0))]::yY::yZ::r/\v'= .tuple ⟨[]⟩/\aT pg f no st= .ok g/\Own Go.Sx.cZ 1 3 yW g.1 yY/\Own aj 8 113 yX g.2 yZ/\I H') (dJ I E (fun e=>aT pg f no st= .error e) r)){st:az}{vn vc:Value}{H K1 K2:Chunk}{r:List Chunk}{no:Int}(hno:av no)(hf:32<=st.1.length+(f+1))(dz:st.1.length<=32)(ki:st.2.length<=256*st.1.length)(hI:I H)(dU:Own Go.Sx.cZ 1 3 vn st.1 K1)(oB:Own aj 8 113 vc st.2 K2):aH Tryz.prog 156 [.pointer (some ⟨bw,0,none⟩),.int .i64 no] (H::[(bw,blk [P,vn,vc] 182 (0,0))]::K1::K2::r) (fun v' hs'=>∃H' yW yX yY yZ g,hs'=H'::[(bw,blk [P,yW,yX] 182 (0,0))]::yY::yZ::r/\v'= .tuple ⟨[]⟩/\aT pg (f+1) no st= .ok g/\Own Go.Sx.cZ 1 3 yW g.1 yY/\Own aj 8 113 yX g.2 yZ/\I H') (dJ I E (fun e=>aT pg (f+1) no st= .error e) r):=by
 refine aH.enter 60 Tryz.func156 rfl Tryz.ntmps156 rfl ?_
 obtain⟨a1,c1,e1⟩:=(dU.row (hs:=[])).len
 subst e1
 refine TT.seq (.region (.U hT 3 rfl (.load rfl rfl (Ld.slc hT rfl hz rfl) rfl ?_)))
 refine OT.U hT 3 rfl (.split 13 rfl (fun pP=> ?_) (fun pP=> ?_))
 .
  have pP:=of_decide_eq_true pP
  refine OT.U hT 3 rfl (.load rfl rfl (Ld.slc hT rfl hz rfl) rfl ?_)
  refine OT.U hT 1 rfl (.call Tryz.call119 rfl rfl rfl rfl (ot dU.row.there.there (by omega)) ?_)
  rintro uf wz ⟨rfl,rfl⟩
  refine OT.U hT 2 rfl ?_
  refine OT.aR Tryz.call118 rfl rfl rfl rfl (aU) (fun _ _ h=>by
   obtain⟨hb,rfl,rfl⟩:=h
   have hb:no∈st.1:=by simpa using hb
   exact PP.of ⟨8,H,by rw[bJ (by decide)],by decide,rfl,.inl ⟨qc (.inr hb),hI⟩⟩ sl) ?_
  rintro yJ qQ ⟨hb,rfl,rfl⟩
  have hb:¬no∈st.1:=by simpa using hb
  have hok:¬(32<=st.1.length\/no∈st.1):=by
   rintro(h|h)
   . omega
   . exact hb h
  refine OT.nil (.seq (.seq (.region (.U hT 4 rfl (.load rfl rfl (Ld.slc hT rfl hz rfl) rfl ?_)))))
  refine OT.U hT 1 rfl ?_
  refine OT.buildSlice (enc:=Go.Sx.cZ) (xs:=[no]) (ij:=[.tmp 28]) j3 rfl rfl rfl rfl rfl (by simp[Value.cells]) (fun _ _=>rfl) rfl (by decide) rfl (fun qJ MW D1=> ?_)
  refine OT.append hT j3 rfl rfl rfl rfl pl dU (D1.row) rfl (by simp only[List.length_singleton];omega) rfl (fun yF MB AK=> ?_)
  refine OT.U hT 2 rfl ?_
  obtain⟨U8,iZ,rfl⟩:=(AK.row (hs:=[])).len
  refine OT.store hT rfl rfl rfl rfl pl rfl (Nat.le_of_ble_eq_true rfl) rfl (.inl (Nat.le_refl _)) rfl ?_
  refine OT.nil (.seq (.seq (.region (.U hT 3 rfl (.load rfl rfl (Ld.one hT rfl hz rfl) rfl ?_)))))
  refine OT.U hT 1 rfl ?_
  refine OT.aR Tryz.call95 rfl rfl rfl rfl (aH.pull pl (lE hP hI (gI hno))) (fun _ _ h=>by
   obtain⟨e,H',rfl,he,rfl,⟨h1,h2⟩|h2⟩:=h
   . exact PP.of ⟨e,H',rfl,he,rfl,.inl ⟨xN hok h1,h2⟩⟩ sl
   . exact PP.of ⟨e,H',rfl,he,rfl,.inr h2⟩ sl) ?_
  rintro sJ AL ⟨H2,K,cs,n,rfl,rfl,hN,dH,hrd⟩
  have hni:=(gS hrd).nd
  have hnc:=hni.cells
  have hnd:=hni.kids
  obtain⟨R6,vk,vi,KA,KB,KC,rfl,rfl,pQ,pR,nj⟩:=hN.is
  obtain⟨ac,cc,e1⟩:=(pQ.row (hs:=[])).len
  obtain⟨ak,ck,e2⟩:=(pR.row (hs:=[])).len
  obtain⟨ai,ci,e3⟩:=(nj.row (hs:=[])).len
  subst e1 e2 e3
  refine OT.perm gH (.alloc Tryz.zeroValue159 rfl rfl (fun nG=> ?_))
  refine OT.ag hT rfl rfl rfl rfl pl rfl rfl rfl (.inl (Nat.le_refl _)) ?_
  refine OT.nil (.seq (.seq (.jT [10] (([(bw,blk [P,.slice U8 (st.1++[no]).length iZ,vc] 182 (0,0))]::[(nG,blk [.bool n.leaf,.slice ac n.cells.length cc,.slice ak n.keys.length ck,.slice ai n.kids.length ci] 159 (0,0))]::r)) mixed (.takes (fuel:=6) hT [0,1,2,3,5] kr kr rfl (.take (fuel:=5) hT 4 rfl rfl kr kr kr rfl (.load rfl (Ld.slc hT rfl hz rfl)) rfl ?_)))))
  refine AT.take (fuel:=4) hT 6 rfl rfl kr kr kr rfl (.load rfl (Ld.slc hT rfl hz rfl)) rfl ?_
  refine AT.op (fuel:=3) 7 kr rfl sl ?_
  refine OT.append hT iU rfl rfl rfl rfl pl oB (pQ.row.there.there) (fM _) (by omega) rfl (fun Gh Dv pO=> ?_)
  refine OT.nil (.any (.takes (fuel:=1) hT [8,9] kr kr rfl (.op (fuel:=0) 10 kr rfl sl ?_)))
  obtain⟨a46,oC,rfl⟩:=(pO.row (hs:=[])).len
  refine OT.store hT rfl rfl rfl rfl pl rfl (Nat.le_of_ble_eq_true rfl) rfl (.inl (Nat.le_refl _)) rfl ?_
  refine OT.nil (.any (.iQ kr kr (.seq (.seq (.region (.U hT 1 rfl (.load rfl rfl (Ld.slc hT rfl hz rfl) rfl ?_)))))))
  refine OT.U hT 2 rfl (.nil (.seq (.block (.loop (ι:=Nat×az×Value×Value×Chunk×Chunk×Chunk) (fun j=>(j.1)<=n.kids.length/\en pg f (n.kids.take (j.1)) (st.1++[no],st.2++n.cells)= .ok (j.2.1)/\Own Go.Sx.cZ 1 3 (j.2.2.1) (j.2.1).1 (j.2.2.2.2.2.1)/\Own aj 8 113 (j.2.2.2.1) (j.2.1).2 (j.2.2.2.2.2.2)/\I (j.2.2.2.2.1)) (fun j=>n.kids.length-(j.1)) (fun j=>[(0,.pointer (some ⟨bw,0,none⟩)),(50,.slice ai n.kids.length ci),(51,.int .i64 (n.kids.length:Nat)),(52,.int .i64 ((j.1):Nat))]) (fun j=>(j.2.2.2.2.1)::[(bw,blk [P,(j.2.2.1),(j.2.2.2.1)] 182 (0,0))]::(j.2.2.2.2.2.1)::(j.2.2.2.2.2.2)::KC::r) (0,(st.1++[no],st.2++n.cells),_,_,H2,MB,Dv) ?_ (aa.cons rfl (aa.cons rfl (aa.cons rfl (aa.cons rfl (aa.nil _))))) sl ?_))))
  . dsimp only
    exact⟨Nat.zero_le _,tj,AK,pO,dH⟩
  rintro⟨i,g,PD,PE,H3,K3,K4⟩ hI
  dsimp only at hI
  obtain⟨hi,hk,R_,Dh,mq⟩:=hI
  show TT _ _ _ [(0,.pointer (some ⟨bw,0,none⟩)),(50,.slice ai n.kids.length ci),(51,.int .i64 (n.kids.length:Nat)),(52,.int .i64 (i:Nat))] (H3::[(bw,blk [P,PD,PE] 182 (0,0))]::K3::K4::KC::r)
  refine TT.seq (.region (.U hT 1 rfl (.nil (.seq (.seq (.cond rfl (fun y5=> ?_) (fun y5=> ?_)))))))
  .
   have y5:=of_decide_eq_true y5
   obtain⟨x,hx⟩:=nth (l:=n.kids) (i:=i) (by omega)
   obtain⟨ga,gb,gc⟩:=zW (by simp only[List.length_append,List.length_singleton];omega) (by simp only[List.length_append,List.length_singleton];omega) hk
   simp only[List.length_append,List.length_singleton]at ga
   refine TT.skip (.seq (.seq (.block (.seq (.region (.index hT rfl rfl rfl rfl nj.row.there.there.there.there (by omega) (by rw[Int.toNat_natCast];exact hx) rfl (fun S6 KU=> ?_)))))))
   refine OT.load rfl rfl (KU.ct hT rfl rfl) rfl (.U hT 1 rfl (.nil (.seq (.region (.U hT 2 rfl ?_)))))
   refine OT.aR Tryz.call156 rfl rfl rfl rfl (aH.pull pl (ih (hni.kP (List.mem_of_getElem? hx)) (by omega) gb gc mq R_ Dh)) (fun _ _ h=>by
    obtain⟨e,H',rfl,he,rfl,⟨h1,h2⟩|h2⟩:=h
    . exact PP.of ⟨e,H',rfl,he,rfl,.inl ⟨(by rw[jH hok hrd];exact zV (i:=i+1) ((mV hx hk).trans h1)),h2⟩⟩ sl
    . exact PP.of ⟨e,H',rfl,he,rfl,.inr h2⟩ sl) ?_
   rintro Qr S7 ⟨H4,U9,U_,K5,K6,g2,rfl,rfl,ht,QF,QG,nk⟩
   refine OT.nil (.blk (.seq (.region (.U hT 2 rfl (.nil (.loop (i+1,g2,U9,U_,H4,K5,K6) ?_ ?_ (aa.cons rfl (aa.cons rfl (aa.cons rfl (aa.aD rfl (by(try dsimp only);exact(int_eq (by rw[wrap_i64 (by omega) (by omega)];omega))) (aa.nil _))))) sl))))))
   . dsimp only
     exact⟨by omega,(mV hx hk).trans ht,QF,QG,nk⟩
   . dsimp only
     omega
  .
   have y5:=of_decide_eq_false y5
   obtain rfl:i=n.kids.length:=by omega
   rw[List.take_of_length_le (Nat.le_refl _)]at hk
   refine TT.exit (.seq (.loop (.here (.iF (rs:=[]) [] (H3::[(bw,blk [P,PD,PE] 182 (0,0))]::K3::K4::r) rfl .nil sl ?_))))
   try dsimp only[one]
   exact⟨H3,PD,PE,K3,K4,g,rfl,rfl,(jH hok hrd).trans hk,R_,Dh,mq⟩
 .
  have pP:=of_decide_eq_false pP
  refine OT.U hT 8 rfl ?_
  refine OT.aR Tryz.call118 rfl rfl rfl rfl (gl) (fun _ _ h=>by
   obtain⟨rfl,rfl⟩:=h
   exact PP.of ⟨8,H,by rw[bJ (by decide)],by decide,rfl,.inl ⟨qc (.inl (by omega)),hI⟩⟩ sl) ?_
  rintro yJ qQ ⟨hb,_⟩
  exact hb.elim
set_option maxHeartbeats 1000000 in
set_option maxRecDepth 100000 in
theorem x9{P:Value}{I:Chunk->Prop}{E:Int->Chunk->Prop}{pg:Pg}(hP:nC Tryz.prog 5 P I E pg){bw:Nat}{st:az}{vn vc:Value}{H K1 K2:Chunk}{r:List Chunk}{no:Int}(hf:32<=st.1.length)(dz:st.1.length<=32)(hI:I H)(dU:Own Go.Sx.cZ 1 3 vn st.1 K1):aH Tryz.prog 156 [.pointer (some ⟨bw,0,none⟩),.int .i64 no] (H::[(bw,blk [P,vn,vc] 182 (0,0))]::K1::K2::r) (fun v' hs'=>∃H' yW yX yY yZ g,hs'=H'::[(bw,blk [P,yW,yX] 182 (0,0))]::yY::yZ::r/\v'= .tuple ⟨[]⟩/\aT pg 0 no st= .ok g/\Own Go.Sx.cZ 1 3 yW g.1 yY/\Own aj 8 113 yX g.2 yZ/\I H') (dJ I E (fun e=>aT pg 0 no st= .error e) r):=by
 refine aH.enter 60 Tryz.func156 rfl Tryz.ntmps156 rfl ?_
 obtain⟨a1,c1,e1⟩:=(dU.row (hs:=[])).len
 subst e1
 refine TT.seq (.region (.U hT 3 rfl (.load rfl rfl (Ld.slc hT rfl hz rfl) rfl ?_)))
 refine OT.U hT 3 rfl (.split 13 rfl (fun pP=> ?_) (fun pP=> ?_))
 .
  exact absurd (of_decide_eq_true pP) (by omega)
 .
  refine OT.U hT 8 rfl ?_
  refine OT.aR Tryz.call118 rfl rfl rfl rfl (gl) (fun _ _ h=>by
   obtain⟨rfl,rfl⟩:=h
   exact PP.of ⟨8,H,by rw[bJ (by decide)],by decide,rfl,.inl ⟨rfl,hI⟩⟩ sl) ?_
  rintro yJ qQ ⟨hb,_⟩
  exact hb.elim
theorem Ao{P:Value}{I:Chunk->Prop}{E:Int->Chunk->Prop}{pg:Pg}(hP:nC Tryz.prog 5 P I E pg){bw:Nat}:∀(f:Nat),∀{st:az} {vn vc:Value} {H K1 K2:Chunk} {r:List Chunk} {no:Int},av no->32<=st.1.length+f->st.1.length<=32->st.2.length<=256*st.1.length->I H->Own Go.Sx.cZ 1 3 vn st.1 K1->Own aj 8 113 vc st.2 K2->aH Tryz.prog 156 [.pointer (some ⟨bw,0,none⟩),.int .i64 no] (H::[(bw,blk [P,vn,vc] 182 (0,0))]::K1::K2::r) (fun v' hs'=>∃H' yW yX yY yZ g,hs'=H'::[(bw,blk [P,yW,yX] 182 (0,0))]::yY::yZ::r/\v'= .tuple ⟨[]⟩/\aT pg f no st= .ok g/\Own Go.Sx.cZ 1 3 yW g.1 yY/\Own aj 8 113 yX g.2 yZ/\I H') (dJ I E (fun e=>aT pg f no st= .error e) r):=by
 intro f
 induction f with
 |zero=>intro st vn vc H K1 K2 r no _ hf dz _ hI dU _;exact x9 hP (by omega) dz hI dU
 |succ f ih=>intro st vn vc H K1 K2 r no hno hf dz ki hI dU oB;exact x8 hP ih hno hf dz ki hI dU oB
theorem x_{P:Value}{I:Chunk->Prop}{E:Int->Chunk->Prop}{pg:Pg}(hP:nC Tryz.prog 5 P I E pg){bw:Nat}{H:Chunk}{r:List Chunk}{no:Int}(hno:av no)(hI:I H):aH Tryz.prog 156 [.pointer (some ⟨bw,0,none⟩),.int .i64 no] (H::[(bw,blk [P,.slice none 0 0,.slice none 0 0] 182 (0,0))]::r) (fun v' hs'=>∃H' yW yX yY yZ g,hs'=H'::[(bw,blk [P,yW,yX] 182 (0,0))]::yY::yZ::r/\v'= .tuple ⟨[]⟩/\aT pg 32 no ([],[])= .ok g/\Own Go.Sx.cZ 1 3 yW g.1 yY/\Own aj 8 113 yX g.2 yZ/\I H') (dJ I E (fun e=>aT pg 32 no ([],[])= .error e) r):=
 aH.perm (hs':=H::[(bw,blk [P,.slice none 0 0,.slice none 0 0] 182 (0,0))]::[]::[]::r) (List.Perm.of_eq rfl) (Ao hP 32 (st:=([],[])) hno (by simp) (by simp) (by simp) hI Own.nil Own.nil)
end Go.Proofs.YtihpkgmfkbkffaaGreat.Sx
end
section
namespace Go.Proofs.YtihpkgmfkbkffaaGreat.Sx
open Go Go.Sx Go.Pl
variable[aq]
set_option maxHeartbeats 2000000 in
set_option maxRecDepth 100000 in
theorem G_{P:Value}{I:Chunk->Prop}{E:Int->Chunk->Prop}{pg:Pg}{H:Chunk}{r:List Chunk}(hP:nC Tryz.prog 5 P I E pg)(hI:I H){A:Chunk}{bt bl bw:Nat}:aH Tryz.prog 155 [.pointer (some ⟨bt,0,none⟩),.pointer (some ⟨bl,0,none⟩)] (A::[(bt,blk [P] 107 (0,0))]::[(bl,blk [.pointer (some ⟨bw,0,none⟩)] 178 (0,0))]::[(bw,blk [P,.slice none 0 0,.slice none 0 0] 182 (0,0))]::H::r) (fun _ hs'=>∃dz,hs'=A::dz/\((∃g vn vc K1 K2 H',eK pg= .ok g/\Own Go.Sx.cZ 1 3 vn g.1 K1/\Own aj 8 113 vc g.2 K2/\I H'/\dz=[(bt,blk [P] 107 (0,0))]::[(bl,blk [.pointer (some ⟨bw,0,none⟩)] 178 (0,0))]::[(bw,blk [P,vn,vc] 182 (0,0))]::K1::K2::H'::r)\/∃H',eK pg= .ok ([],[])/\I H'/\dz=[(bt,blk [P] 107 (0,0))]::[(bl,blk [.pointer (some ⟨bw,0,none⟩)] 178 (0,0))]::[(bw,blk [P,.slice none 0 0,.slice none 0 0] 182 (0,0))]::H'::r)) (fun v' hs'=>∃e dz,hs'=A::dz/\v'=sw e/\e≠0/\∃H',dz=[(bl,blk [.pointer (some ⟨bw,0,none⟩)] 178 (0,0))]::H'::r/\((eK pg= .error e/\I H')\/∃e0,E e0 H')):=by
 refine aH.enter 10 Tryz.func155 rfl Tryz.ntmps155 rfl ?_
 refine TT.seq (.region (.load rfl rfl (Ld.one hT rfl hz rfl) rfl ?_))
 refine OT.aR Tryz.call94 rfl rfl rfl rfl (aH.pull pl (qA hP hI)) (fun _ _ h=>by
  obtain⟨e,H',rfl,he,rfl,⟨h1,h2⟩|⟨e0,h2⟩⟩:=h
  . exact PP.of ⟨e,_,rfl,rfl,he,H',rfl,.inl ⟨rA h1,h2⟩⟩ sl
  . exact PP.of ⟨e,_,rfl,rfl,he,H',rfl,.inr ⟨e0,h2⟩⟩ sl) ?_
 rintro O_ Jx ⟨H1,no,rfl,rfl,fS,js⟩
 have l7:=jj js
 refine OT.U hT 1 rfl (.nil (.seq (.seq (.region (.U hT 2 rfl (.nil (.seq (.cond rfl (fun c6=> ?_) (fun c6=> ?_)))))))))
 .
  have c6:no≠0:=by simpa using c6
  have l7:=l7.resolve_left c6
  refine TT.region (.load rfl rfl (Ld.one hT rfl hz rfl) rfl ?_)
  refine OT.U hT 1 rfl ?_
  refine OT.aR Tryz.call156 rfl rfl rfl rfl (aH.weaken sl (x_ (bw:=bw) (r:=A::[(bt,blk [P] 107 (0,0))]::[(bl,blk [.pointer (some ⟨bw,0,none⟩)] 178 (0,0))]::r) hP l7 fS)) (fun _ _ h=>by
   obtain⟨e,H',rfl,he,rfl,⟨h1,h2⟩|⟨e0,h2⟩⟩:=h
   . exact PP.of ⟨e,_,rfl,rfl,he,H',rfl,.inl ⟨(by rw[nK js c6];exact h1),h2⟩⟩ sl
   . exact PP.of ⟨e,_,rfl,rfl,he,H',rfl,.inr ⟨e0,h2⟩⟩ sl) ?_
  rintro IW yG ⟨H2,vn,vc,K1,K2,g,rfl,rfl,qg,dU,oB,dH⟩
  refine OT.nil (.iF (rs:=[]) [] (A::[(bt,blk [P] 107 (0,0))]::[(bl,blk [.pointer (some ⟨bw,0,none⟩)] 178 (0,0))]::[(bw,blk [P,vn,vc] 182 (0,0))]::K1::K2::H2::r) rfl .nil sl ?_)
  try dsimp only[one]
  exact⟨_,rfl,.inl ⟨g,vn,vc,K1,K2,H2,by rw[nK js c6];exact qg,dU,oB,dH,rfl⟩⟩
 .
  have c6:no=0:=by simpa using c6
  refine TT.skip (.iF (rs:=[]) [] (A::[(bt,blk [P] 107 (0,0))]::[(bl,blk [.pointer (some ⟨bw,0,none⟩)] 178 (0,0))]::[(bw,blk [P,.slice none 0 0,.slice none 0 0] 182 (0,0))]::H1::r) rfl .nil sl ?_)
  try dsimp only[one]
  exact⟨_,rfl,.inr ⟨H1,lR js c6,fS,rfl⟩⟩
set_option maxHeartbeats 2000000 in
set_option maxRecDepth 100000 in
theorem He{P:Value}{I:Chunk->Prop}{E:Int->Chunk->Prop}{pg:Pg}{H:Chunk}{r:List Chunk}(hP:nC Tryz.prog 5 P I E pg)(hI:I H):ax Tryz.prog 110 [P] (H::r) (fun v' hs'=>(∃bw,v'= .tuple ⟨[.pointer (some ⟨bw,0,none⟩),.int .i64 0]⟩/\((∃g vn vc K1 K2 H',eK pg= .ok g/\Own Go.Sx.cZ 1 3 vn g.1 K1/\Own aj 8 113 vc g.2 K2/\I H'/\hs'=[(bw,blk [P,vn,vc] 182 (0,0))]::K1::K2::H'::r)\/∃H',eK pg= .ok ([],[])/\I H'/\hs'=[(bw,blk [P,.slice none 0 0,.slice none 0 0] 182 (0,0))]::H'::r))\/∃(p:Nat) (e:Int) (H':Chunk),v'= .tuple ⟨[.pointer (some ⟨p,0,none⟩),.int .i64 e]⟩/\e≠0/\hs'=H'::r/\((eK pg= .error e/\I H')\/∃e0,E e0 H')):=by
 refine ax.enter 13 Tryz.func110 rfl Tryz.ntmps110 rfl ?_
 obtain⟨ti,ui,L8⟩:=hP.iface
 subst L8
 refine TT.seq (.region (.box rfl rfl rfl (fun b_1=> ?_)))
 refine OT.U hT 2 rfl (.nil (.seq (.seq (.region (.load rfl rfl (Ld.one hT rfl hz rfl) rfl ?_)))))
 refine OT.build hT rfl Tryz.zeroValue182 rfl rfl rfl rfl (.box rfl rfl rfl (fun l8=> ?_))
 refine OT.alloc Tryz.zeroValue178 rfl rfl (fun nG=> ?_)
 refine OT.ag hT rfl rfl rfl rfl pl rfl rfl rfl (.inl (Nat.le_refl _)) ?_
 refine OT.nil (.seq (.seq (.region (.U hT 1 rfl (.call Tryz.call84 rfl rfl rfl rfl ((lZ (N:=fun _ dz=>((∃g vn vc K1 K2 H',eK pg= .ok g/\Own Go.Sx.cZ 1 3 vn g.1 K1/\Own aj 8 113 vc g.2 K2/\I H'/\dz=[(b_1,blk [.iface ti ui] 107 (0,0))]::[(nG,blk [.pointer (some ⟨l8,0,none⟩)] 178 (0,0))]::[(l8,blk [.iface ti ui,vn,vc] 182 (0,0))]::K1::K2::H'::r)\/∃H',eK pg= .ok ([],[])/\I H'/\dz=[(b_1,blk [.iface ti ui] 107 (0,0))]::[(nG,blk [.pointer (some ⟨l8,0,none⟩)] 178 (0,0))]::[(l8,blk [.iface ti ui,.slice none 0 0,.slice none 0 0] 182 (0,0))]::H'::r)) (E:=fun e dz=>e≠0/\∃H',dz=[(nG,blk [.pointer (some ⟨l8,0,none⟩)] 178 (0,0))]::H'::r/\((eK pg= .error e/\I H')\/∃e0,E e0 H')) Tryz.call155 (fun A=>aH.weaken sl (G_ (A:=A) (bt:=b_1) (bl:=nG) (bw:=l8) hP hI)))) ?_)))))
 rintro oG jX (⟨rfl,_,⟨g,vn,vc,K1,K2,H',mu,dU,oB,yu,rfl⟩|⟨H',mu,yu,rfl⟩⟩|⟨e,rfl,he,H',rfl,mw⟩)
 .
  refine OT.U hT 1 rfl (.nil (.seq (.seq (.region (.load rfl rfl (Ld.one hT rfl hz rfl) rfl ?_)))))
  refine OT.U hT 3 rfl (.nil (.seq (.ret (.of (rs:=[.tmp 2,.tmp 3]) [_,_] ([(l8,blk [.iface ti ui,vn,vc] 182 (0,0))]::K1::K2::H'::r) rfl (.tmp rfl (.tmp rfl .nil)) sl ?_))))
  try dsimp only[one]
  exact .inl ⟨l8,rfl,.inl ⟨g,vn,vc,K1,K2,H',mu,dU,oB,yu,rfl⟩⟩
 .
  refine OT.U hT 1 rfl (.nil (.seq (.seq (.region (.load rfl rfl (Ld.one hT rfl hz rfl) rfl ?_)))))
  refine OT.U hT 3 rfl (.nil (.seq (.ret (.of (rs:=[.tmp 2,.tmp 3]) [_,_] ([(l8,blk [.iface ti ui,.slice none 0 0,.slice none 0 0] 182 (0,0))]::H'::r) rfl (.tmp rfl (.tmp rfl .nil)) sl ?_))))
  try dsimp only[one]
  exact .inl ⟨l8,rfl,.inr ⟨H',mu,yu,rfl⟩⟩
 .
  refine OT.U hT 1 rfl (.nil (.seq (.seq (.region (.load rfl rfl (Ld.one hT rfl hz rfl) rfl ?_)))))
  refine OT.U hT 3 rfl (.nil (.seq (.ret (.of (rs:=[.tmp 2,.tmp 3]) [_,_] (H'::r) rfl (.tmp rfl (.tmp rfl .nil)) sl ?_))))
  try dsimp only[one]
  exact .inr ⟨_,e,H',rfl,he,rfl,mw⟩
theorem Es{P:Value}{I:Chunk->Prop}{E:Int->Chunk->Prop}{pg:Pg}{H:Chunk}{r:List Chunk}(hP:nC Tryz.prog 5 P I E pg)(hI:I H):ax Tryz.prog 110 [P] (H::r) (fun v' hs'=>(∃bw g vn vc K1 K2 H',v'= .tuple ⟨[.pointer (some ⟨bw,0,none⟩),.int .i64 0]⟩/\eK pg= .ok g/\Own Go.Sx.cZ 1 3 vn g.1 K1/\Own aj 8 113 vc g.2 K2/\I H'/\hs'=[(bw,blk [P,vn,vc] 182 (0,0))]::K1::K2::H'::r)\/∃(p:Nat) (e:Int) (H':Chunk),v'= .tuple ⟨[.pointer (some ⟨p,0,none⟩),.int .i64 e]⟩/\e≠0/\hs'=H'::r/\((eK pg= .error e/\I H')\/∃e0,E e0 H')):=by
 refine(He hP hI).y9 ?_
 rintro v' dz (⟨bw,rfl,⟨g,vn,vc,K1,K2,H',mu,dU,oB,yu,rfl⟩|⟨H',mu,yu,rfl⟩⟩|h)
 . exact⟨_,.inl ⟨bw,g,vn,vc,K1,K2,H',rfl,mu,dU,oB,yu,rfl⟩,List.Perm.refl _⟩
 . exact⟨_,.inl ⟨bw,([],[]),_,_,[],[],H',rfl,mu,Own.nil,Own.nil,yu,rfl⟩,List.Perm.of_eq rfl⟩
 . exact⟨_,.inr h,List.Perm.refl _⟩
end Go.Proofs.YtihpkgmfkbkffaaGreat.Sx
end
section
namespace Go.Sx
open Go Go.Sort
variable[aq]
theorem Mem.holds{w:World}{b:Nat}{pre sp:List Value}{xs:List Int}{e:Nat}{fr:Nat×Nat}{r:List Chunk}
 (hm:Mem ([(b,blk (pre++xs.map (Value.int .i64)++sp) e fr)]::r) w)(ht:eI (pre++xs.map (Value.int .i64)++sp) fr):Holds (Value.int .i64) w b pre.length xs.toArray:=by
 intro j hj
 rw[List.size_toArray]at hj
 have hb:=hm.heap (b:=b) Has.one
 constructor
 . rw[hm.cell (b:=b) Has.one (pre.length+j)]
   rw[List.append_assoc,List.getElem?_append_right (by omega),List.getElem?_append_left (by rw[List.length_map];omega),List.getElem?_map]
   rw[show pre.length+j-pre.length=j by omega,List.getElem?_eq_getElem hj,Option.map_some,getElem!_pos xs.toArray j (by rw[List.size_toArray];omega)]
   rfl
 . simp only[World.frozen?,hb]
   rcases ht with ht|ht
   . simp;omega
   . simp only[List.length_append,List.length_map]at ht
     simp;omega
end Go.Sx
end
section
namespace Go.Proofs.YtihpkgmfkbkffaaGreat.Sx
open Go Go.Sx Go.Pl
variable[aq]
set_option maxHeartbeats 2000000 in
set_option maxRecDepth 100000 in
theorem Bu{P:Value}{I:Chunk->Prop}{E:Int->Chunk->Prop}{pg:Pg}{H:Chunk}{r:List Chunk}(hP:nC Tryz.prog 5 P I E pg)(hI:I H){s t:ByteArray}:ax Tryz.prog 60 [P,.string s,.string t] (H::r) (fun v' hs'=>(∃H' K v g,v'= .tuple ⟨[v,.int .i64 0]⟩/\hs'=H'::K::r/\eK pg= .ok g/\Own aj 8 113 v (g.2.filter (fun c=>bu c.key s t)) K/\I H')\/∃e H',v'= .tuple ⟨[.slice none 0 0,.int .i64 e]⟩/\e≠0/\hs'=H'::r/\((eK pg= .error e/\I H')\/∃e0,E e0 H')):=by
 refine ax.enter 41 Tryz.func60 rfl Tryz.ntmps60 rfl ?_
 refine TT.seq (.region (.U hT 2 rfl (.nil (.seq (.seq (.region (.U hT 1 rfl (.call Tryz.call110 rfl rfl rfl rfl (Es hP hI) ?_))))))))
 rintro Ds wq (⟨bw,g,vn,vc,K1,K2,H',rfl,mu,dU,oB,yu,rfl⟩|⟨p,e,H',rfl,he,rfl,mw⟩)
 .
  obtain⟨an,cn,e1⟩:=(dU.row (hs:=[])).len
  obtain⟨ac,cc,e2⟩:=(oB.row (hs:=[])).len
  subst e1 e2
  have Sa:=nT mu
  refine OT.U hT 5 rfl (.nil (.seq (.seq (.seq (.region (.U hT 2 rfl (.nil (.seq (.cond rfl (fun uo=> ?_) (fun uo=> ?_))))))))))
  .
   exact absurd uo (by decide)
  .
   refine TT.skip (.seq (.seq (.region (.U hT 1 rfl (.nil (.seq (.seq (.seq (.region (.U hT 3 rfl (.load rfl rfl (Ld.slc hT rfl hz rfl) rfl ?_)))))))))))
   refine OT.U hT 2 rfl (.nil (.seq (.block (.loop (ι:=Nat×Value×Chunk) (fun j=>(j.1)<=g.2.length/\Own aj 8 113 (j.2.1) ((g.2.take (j.1)).filter (fun c=>bu c.key s t)) (j.2.2)) (fun j=>g.2.length-(j.1)) (fun j=>[(1,.string s),(2,.string t),(10,(j.2.1)),(24,.slice ac g.2.length cc),(25,.int .i64 (g.2.length:Nat)),(26,.int .i64 ((j.1):Nat))]) (fun j=>(j.2.2)::[(bw,blk [P,(.slice an g.1.length cn),(.slice ac g.2.length cc)] 182 (0,0))]::K1::K2::H'::r) (0,.slice none 0 0,[]) ?_ (aa.cons rfl (aa.cons rfl (aa.cons rfl (aa.cons rfl (aa.cons rfl (aa.cons rfl (aa.nil _))))))) (.empty sl) ?_))))
   . dsimp only
     exact⟨Nat.zero_le _,Own.nil⟩
   rintro⟨i,v,K⟩ hI
   dsimp only at hI
   obtain⟨hi,oD⟩:=hI
   show TT _ _ _ [(1,.string s),(2,.string t),(10,v),(24,.slice ac g.2.length cc),(25,.int .i64 (g.2.length:Nat)),(26,.int .i64 (i:Nat))] (K::[(bw,blk [P,(.slice an g.1.length cn),(.slice ac g.2.length cc)] 182 (0,0))]::K1::K2::H'::r)
   refine TT.seq (.region (.U hT 1 rfl (.nil (.seq (.seq (.cond rfl (fun qE=> ?_) (fun qE=> ?_)))))))
   .
    have qE:=of_decide_eq_true qE
    obtain⟨x,hx⟩:=nth (l:=g.2) (i:=i) (by omega)
    have hfl:=List.length_filter_le (fun c=>bu c.key s t) (g.2.take i)
    have yl:=List.length_take_le i g.2
    refine TT.skip (.seq (.seq (.block (.seq (.region (.index hT rfl rfl rfl rfl oB.row.there.there.there (by omega) (by rw[Int.toNat_natCast];exact hx) rfl (fun Iy ri=> ?_)))))))
    refine OT.load rfl rfl (ri.cy hT rfl) rfl (.alloc Tryz.zeroValue113 rfl rfl (fun JQ=> ?_))
    refine OT.ag hT rfl rfl rfl rfl pl rfl rfl rfl (.inl (Nat.le_refl _)) ?_
    refine OT.nil (.seq (.seq (.region (.U hT 1 rfl (.load rfl rfl (Ld.one hT rfl hz rfl) rfl ?_)))))
    refine OT.U hT 2 rfl (.call Tryz.call111 rfl rfl rfl rfl (DT) ?_)
    rintro BG we ⟨rfl,rfl⟩
    refine OT.nil (.seq (.cond rfl (fun mj=> ?_) (fun mj=> ?_)))
    .
     refine TT.region (.U hT 1 rfl (.load rfl rfl (Ld.af hT rfl hz rfl) rfl ?_))
     refine OT.buildSlice (enc:=aj) (xs:=[x]) (ij:=[.tmp 36]) iU rfl rfl rfl rfl rfl (by simp[Value.cells];rfl) (fun _ _=>rfl) rfl (by decide) rfl (fun Jy QH D3=> ?_)
     refine OT.append hT iU rfl rfl rfl rfl pl oD (D3.row) (fM _) (by simp only[List.length_singleton];omega) rfl (fun sJ Dw qT=> ?_)
     refine OT.U hT 1 rfl (.nil (.blk (.seq (.region (.U hT 2 rfl (.nil (.loop (i+1,sJ,Dw) ?_ ?_ (aa.cons rfl (aa.cons rfl (aa.cons rfl (aa.cons rfl (aa.cons rfl (aa.aD rfl (by(try dsimp only);exact(int_eq (by rw[wrap_i64 (by omega) (by omega)];omega))) (aa.nil _))))))) sl)))))))
     . dsimp only
       exact⟨by omega,by rw[List.take_add_one,hx,Option.toList_some,List.filter_append,show List.filter (fun c=>bu c.key s t) [x]=[x] by simp[mj]];exact qT⟩
     . dsimp only
       omega
    .
     refine TT.skip (.blk (.seq (.region (.U hT 2 rfl (.nil (.loop (i+1,v,K) ?_ ?_ (aa.cons rfl (aa.cons rfl (aa.cons rfl (aa.cons rfl (aa.cons rfl (aa.aD rfl (by(try dsimp only);exact(int_eq (by rw[wrap_i64 (by omega) (by omega)];omega))) (aa.nil _))))))) sl))))))
     . dsimp only
       exact⟨by omega,by rw[List.take_add_one,hx,Option.toList_some,List.filter_append,show List.filter (fun c=>bu c.key s t) [x]=[] by simp[mj],List.append_nil];exact oD⟩
     . dsimp only
       omega
   .
    have qE:=of_decide_eq_false qE
    obtain rfl:i=g.2.length:=by omega
    rw[List.take_of_length_le (Nat.le_refl _)]at oD
    refine TT.exit (.seq (.loop (.here (.seq (.seq (.region (.U hT 3 rfl (.nil (.seq (.ret (.of (rs:=[.tmp 6,.tmp 7]) [_,_] (H'::K::r) rfl (.tmp rfl (.tmp rfl .nil)) sl ?_)))))))))))
    try dsimp only[one]
    exact .inl ⟨H',K,v,g,rfl,rfl,mu,oD,yu⟩
 .
  refine OT.U hT 5 rfl (.nil (.seq (.seq (.seq (.region (.U hT 2 rfl (.nil (.seq (.cond rfl (fun uo=> ?_) (fun uo=> ?_))))))))))
  .
   refine TT.seq (.region (.U hT 3 rfl (.nil (.seq (.ret (.of (rs:=[.tmp 6,.tmp 7]) [_,_] (H'::r) rfl (.tmp rfl (.tmp rfl .nil)) sl ?_))))))
   try dsimp only[one]
   exact .inr ⟨e,H',rfl,he,rfl,mw⟩
  .
   exact absurd uo (by simpa using he)
end Go.Proofs.YtihpkgmfkbkffaaGreat.Sx
end
section
namespace Go.Proofs.YtihpkgmfkbkffaaGreat.Sx
open Go Go.Sx Go.Pl
variable[aq]
set_option maxHeartbeats 6000000 in
set_option maxRecDepth 100000 in
theorem CR{P:Value}{I:Chunk->Prop}{E:Int->Chunk->Prop}{pg:Pg}(hP:nC Tryz.prog 5 P I E pg){f:Nat}(hf:f<64)(ih:∀{lo hi:ByteArray} {top:Bool} {H:Chunk} {r:List Chunk} {no:Int},av no->Deep pg f no->I H->aH Tryz.prog 116 [P,.int .i64 no,.agg ⟨[.string lo,.string hi]⟩,.bool top] (H::r) (fun v' hs'=>∃H' d,hs'=H'::r/\v'= .int .i64 d/\dB pg f no lo hi top= .ok d/\I H'/\0<=d/\d<((f:Nat):Int)) (dJ I E (fun e=>dB pg f no lo hi top= .error e) r)){lo hi:ByteArray}{top:Bool}{H:Chunk}{r:List Chunk}{no:Int}(hno:av no)(PF:Deep pg (f+1) no)(hI:I H):aH Tryz.prog 116 [P,.int .i64 no,.agg ⟨[.string lo,.string hi]⟩,.bool top] (H::r) (fun v' hs'=>∃H' d,hs'=H'::r/\v'= .int .i64 d/\dB pg (f+1) no lo hi top= .ok d/\I H'/\0<=d/\d<(((f+1):Nat):Int)) (dJ I E (fun e=>dB pg (f+1) no lo hi top= .error e) r):=by
 refine aH.enter 91 Tryz.func116 rfl Tryz.ntmps116 rfl ?_
 refine TT.seq (.region (.box rfl rfl rfl (fun gB=> ?_)))
 refine OT.U hT 1 rfl (.nil (.seq (.seq (.region (.U hT 2 rfl ?_)))))
 refine OT.aR Tryz.call95 rfl rfl rfl rfl (aH.pull pl (lE hP hI (gI hno))) (fun _ _ h=>by
  obtain⟨e,H',rfl,he,rfl,⟨h1,h2⟩|h2⟩:=h
  . exact PP.of ⟨e,H',rfl,he,rfl,.inl ⟨zX h1,h2⟩⟩ sl
  . exact PP.of ⟨e,H',rfl,he,rfl,.inr h2⟩ sl) ?_
 rintro uf wz ⟨H2,K,cs,n,rfl,rfl,hN,dH,hrd⟩
 have hni:=(gS hrd).nd
 have hnc:=hni.cells
 have hnk:=hni.keys
 have hnd:=hni.kids
 have Oz:=PF n hrd
 obtain⟨vc,vk,vi,KA,KB,KC,rfl,rfl,pQ,pR,nj⟩:=hN.is
 obtain⟨ac,cc,e1⟩:=(pQ.row (hs:=[])).len
 obtain⟨ak,ck,e2⟩:=(pR.row (hs:=[])).len
 obtain⟨ai,ci,e3⟩:=(nj.row (hs:=[])).len
 subst e1 e2 e3
 refine OT.perm gH (.alloc Tryz.zeroValue159 rfl rfl (fun mH=> ?_))
 refine OT.ag hT rfl rfl rfl rfl pl rfl rfl rfl (.inl (Nat.le_refl _)) ?_
 refine OT.nil (.seq (.seq (.seq (.region (.U hT 1 rfl (.load rfl rfl (Ld.one hT rfl hz rfl) rfl ?_))))))
 refine OT.nil (.seq (.cond rfl (fun ef=> ?_) (fun ef=> ?_)))
 .
  have hlf:n.leaf=true:=ef
  refine TT.seq (.region (.U hT 2 rfl (.split 23 rfl (fun PG=> ?_) (fun PG=> ?_))))
  .
   refine OT.U hT 5 rfl (.call Tryz.call118 rfl rfl rfl rfl (cT) ?_)
   rintro qJ pH ⟨rfl,rfl⟩
   have h2:top=true\/0<n.cells.length:= .inl PG
   refine OT.nil (.seq (.seq (.seq (.region (.U hT 1 rfl (.load rfl rfl (Ld.slc hT rfl hz rfl) rfl ?_))))))
   refine OT.U hT 2 rfl (.nil (.seq (.block (.loop (ι:=Nat) (fun j=>(j)<=n.cells.length/\∀c∈n.cells.take (j),bu c.key lo hi=true) (fun j=>n.cells.length-(j)) (fun j=>[(6,.pointer (some ⟨gB,0,none⟩)),(31,.slice ac n.cells.length cc),(32,.int .i64 (n.cells.length:Nat)),(33,.int .i64 ((j):Nat))]) (fun j=>[(mH,blk [.bool n.leaf,.slice ac n.cells.length cc,.slice ak n.keys.length ck,.slice ai n.kids.length ci] 159 (0,0))]::H2::KA::KB::KC::[(gB,blk [.string lo,.string hi] 186 (0,0))]::r) (0) ?_ (aa.cons rfl (aa.cons rfl (aa.cons rfl (aa.cons rfl (aa.nil _))))) sl ?_))))
   . exact⟨Nat.zero_le _,fun c hc=>by cases hc⟩
   rintro i ⟨hil,hin⟩
   show TT _ _ _ [(6,.pointer (some ⟨gB,0,none⟩)),(31,.slice ac n.cells.length cc),(32,.int .i64 (n.cells.length:Nat)),(33,.int .i64 (i:Nat))] ([(mH,blk [.bool n.leaf,.slice ac n.cells.length cc,.slice ak n.keys.length ck,.slice ai n.kids.length ci] 159 (0,0))]::H2::KA::KB::KC::[(gB,blk [.string lo,.string hi] 186 (0,0))]::r)
   refine TT.seq (.region (.U hT 1 rfl (.nil (.seq (.seq (.cond rfl (fun mj=> ?_) (fun mj=> ?_)))))))
   .
    have mj:=of_decide_eq_true mj
    obtain⟨x,hx⟩:=nth (l:=n.cells) (i:=i) (by omega)
    refine TT.skip (.seq (.seq (.block (.seq (.region (.index hT rfl rfl rfl rfl pQ.row.there.there (by omega) (by rw[Int.toNat_natCast];exact hx) rfl (fun wA gR=> ?_)))))))
    refine OT.load rfl rfl (gR.cy hT rfl) rfl (.alloc Tryz.zeroValue113 rfl rfl (fun Gi=> ?_))
    refine OT.ag hT rfl rfl rfl rfl pl rfl rfl rfl (.inl (Nat.le_refl _)) ?_
    refine OT.nil (.seq (.region (.U hT 1 rfl (.load rfl rfl (Ld.one hT rfl hz rfl) rfl ?_))))
    refine OT.U hT 1 rfl (.load rfl rfl (Ld.one hT rfl hz rfl) rfl ?_)
    refine OT.U hT 1 rfl (.load rfl rfl (Ld.one hT rfl hz rfl) rfl ?_)
    refine OT.call Tryz.call111 rfl rfl rfl rfl (DT) ?_
    rintro Gg Iv ⟨rfl,rfl⟩
    refine OT.aR Tryz.call118 rfl rfl rfl rfl (aU) (fun _ _ h=>by
     obtain⟨hb,rfl,rfl⟩:=h
     exact PP.of ⟨8,H2,by rw[bJ (by decide)],by decide,rfl,.inl ⟨r7 hrd hlf h2 (List.mem_of_getElem? hx) hb,dH⟩⟩ sl) ?_
    rintro vE s0 ⟨j6,rfl,rfl⟩
    refine OT.nil (.blk (.seq (.region (.U hT 2 rfl (.nil (.loop (i+1) ?_ ?_ (aa.cons rfl (aa.cons rfl (aa.cons rfl (aa.aD rfl (by(try dsimp only);exact(int_eq (by rw[wrap_i64 (by omega) (by omega)];omega))) (aa.nil _))))) sl))))))
    . refine⟨by omega,fun c hc=> ?_⟩
      rw[List.take_add_one,hx]at hc
      rcases List.mem_append.1 hc with hc|hc
      . exact hin c hc
      . rw[Option.toList_some,List.mem_singleton]at hc
        subst hc;exact j6
    . omega
   .
    have mj:=of_decide_eq_false mj
    obtain rfl:i=n.cells.length:=by omega
    rw[List.take_of_length_le (Nat.le_refl _)]at hin
    refine TT.exit (.seq (.loop (.here (.seq (.seq (.region (.U hT 1 rfl (.nil (.seq (.ret (.iF (rs:=[.tmp 8]) [_] (H2::r) rfl (.tmp rfl .nil) sl ?_)))))))))))
    try dsimp only[one]
    exact⟨H2,0,rfl,rfl,kX hrd hlf h2 hin,dH,by omega,by omega⟩
  .
   refine OT.U hT 1 rfl (.load rfl rfl (Ld.slc hT rfl hz rfl) rfl ?_)
   refine OT.U hT 3 rfl ?_
   refine OT.aR Tryz.call118 rfl rfl rfl rfl (aU) (fun _ _ h=>by
    obtain⟨hb,rfl,rfl⟩:=h
    have hb:¬0<n.cells.length:=by have:=of_decide_eq_false hb;omega
    exact PP.of ⟨8,H2,by rw[bJ (by decide)],by decide,rfl,.inl ⟨xO hrd hlf (fun h=>h.elim (fun e=>by rw[PG]at e;cases e) hb),dH⟩⟩ sl) ?_
   rintro qJ pH ⟨hb,rfl,rfl⟩
   have h2:top=true\/0<n.cells.length:= .inr (by have:=of_decide_eq_true hb;omega)
   refine OT.nil (.seq (.seq (.seq (.region (.U hT 1 rfl (.load rfl rfl (Ld.slc hT rfl hz rfl) rfl ?_))))))
   refine OT.U hT 2 rfl (.nil (.seq (.block (.loop (ι:=Nat) (fun j=>(j)<=n.cells.length/\∀c∈n.cells.take (j),bu c.key lo hi=true) (fun j=>n.cells.length-(j)) (fun j=>[(6,.pointer (some ⟨gB,0,none⟩)),(31,.slice ac n.cells.length cc),(32,.int .i64 (n.cells.length:Nat)),(33,.int .i64 ((j):Nat))]) (fun j=>[(mH,blk [.bool n.leaf,.slice ac n.cells.length cc,.slice ak n.keys.length ck,.slice ai n.kids.length ci] 159 (0,0))]::H2::KA::KB::KC::[(gB,blk [.string lo,.string hi] 186 (0,0))]::r) (0) ?_ (aa.cons rfl (aa.cons rfl (aa.cons rfl (aa.cons rfl (aa.nil _))))) sl ?_))))
   . exact⟨Nat.zero_le _,fun c hc=>by cases hc⟩
   rintro i ⟨hil,hin⟩
   show TT _ _ _ [(6,.pointer (some ⟨gB,0,none⟩)),(31,.slice ac n.cells.length cc),(32,.int .i64 (n.cells.length:Nat)),(33,.int .i64 (i:Nat))] ([(mH,blk [.bool n.leaf,.slice ac n.cells.length cc,.slice ak n.keys.length ck,.slice ai n.kids.length ci] 159 (0,0))]::H2::KA::KB::KC::[(gB,blk [.string lo,.string hi] 186 (0,0))]::r)
   refine TT.seq (.region (.U hT 1 rfl (.nil (.seq (.seq (.cond rfl (fun mj=> ?_) (fun mj=> ?_)))))))
   .
    have mj:=of_decide_eq_true mj
    obtain⟨x,hx⟩:=nth (l:=n.cells) (i:=i) (by omega)
    refine TT.skip (.seq (.seq (.block (.seq (.region (.index hT rfl rfl rfl rfl pQ.row.there.there (by omega) (by rw[Int.toNat_natCast];exact hx) rfl (fun wA gR=> ?_)))))))
    refine OT.load rfl rfl (gR.cy hT rfl) rfl (.alloc Tryz.zeroValue113 rfl rfl (fun Gi=> ?_))
    refine OT.ag hT rfl rfl rfl rfl pl rfl rfl rfl (.inl (Nat.le_refl _)) ?_
    refine OT.nil (.seq (.region (.U hT 1 rfl (.load rfl rfl (Ld.one hT rfl hz rfl) rfl ?_))))
    refine OT.U hT 1 rfl (.load rfl rfl (Ld.one hT rfl hz rfl) rfl ?_)
    refine OT.U hT 1 rfl (.load rfl rfl (Ld.one hT rfl hz rfl) rfl ?_)
    refine OT.call Tryz.call111 rfl rfl rfl rfl (DT) ?_
    rintro Gg Iv ⟨rfl,rfl⟩
    refine OT.aR Tryz.call118 rfl rfl rfl rfl (aU) (fun _ _ h=>by
     obtain⟨hb,rfl,rfl⟩:=h
     exact PP.of ⟨8,H2,by rw[bJ (by decide)],by decide,rfl,.inl ⟨r7 hrd hlf h2 (List.mem_of_getElem? hx) hb,dH⟩⟩ sl) ?_
    rintro vE s0 ⟨j6,rfl,rfl⟩
    refine OT.nil (.blk (.seq (.region (.U hT 2 rfl (.nil (.loop (i+1) ?_ ?_ (aa.cons rfl (aa.cons rfl (aa.cons rfl (aa.aD rfl (by(try dsimp only);exact(int_eq (by rw[wrap_i64 (by omega) (by omega)];omega))) (aa.nil _))))) sl))))))
    . refine⟨by omega,fun c hc=> ?_⟩
      rw[List.take_add_one,hx]at hc
      rcases List.mem_append.1 hc with hc|hc
      . exact hin c hc
      . rw[Option.toList_some,List.mem_singleton]at hc
        subst hc;exact j6
    . omega
   .
    have mj:=of_decide_eq_false mj
    obtain rfl:i=n.cells.length:=by omega
    rw[List.take_of_length_le (Nat.le_refl _)]at hin
    refine TT.exit (.seq (.loop (.here (.seq (.seq (.region (.U hT 1 rfl (.nil (.seq (.ret (.iF (rs:=[.tmp 8]) [_] (H2::r) rfl (.tmp rfl .nil) sl ?_)))))))))))
    try dsimp only[one]
    exact⟨H2,0,rfl,rfl,kX hrd hlf h2 hin,dH,by omega,by omega⟩
 .
  have hlf:n.leaf=false:=ef
  have hkk:=(hni.ways hlf).1
  refine TT.skip (.seq (.seq (.region (.U hT 1 rfl (.nil (.seq (.seq (.seq (.region (.U hT 1 rfl (.load rfl rfl (Ld.slc hT rfl hz rfl) rfl ?_)))))))))))
  refine OT.U hT 2 rfl (.nil (.seq (.block (.loop (ι:=Nat×Int×Chunk) (fun j=>(j.1)<=n.kids.length/\ie pg f n lo hi (j.1)= .ok (j.2.1)/\I (j.2.2)/\ -1<=(j.2.1)/\(j.2.1)<((f:Nat):Int)) (fun j=>n.kids.length-(j.1)) (fun j=>[(0,P),(6,.pointer (some ⟨gB,0,none⟩)),(9,.pointer (some ⟨mH,0,none⟩)),(12,.int .i64 (j.2.1)),(47,.slice ai n.kids.length ci),(48,.int .i64 (n.kids.length:Nat)),(49,.int .i64 ((j.1):Nat))]) (fun j=>[(mH,blk [.bool n.leaf,.slice ac n.cells.length cc,.slice ak n.keys.length ck,.slice ai n.kids.length ci] 159 (0,0))]::(j.2.2)::KB::KC::[(gB,blk [.string lo,.string hi] 186 (0,0))]::r) (0,(-1:Int),H2) ?_ (aa.cons rfl (aa.cons rfl (aa.cons rfl (aa.cons rfl (aa.cons rfl (aa.cons rfl (aa.cons rfl (aa.nil _)))))))) sl ?_))))
  . dsimp only
    exact⟨Nat.zero_le _,zY,dH,by omega,by omega⟩
  rintro⟨i,d,H3⟩ hI
  dsimp only at hI
  obtain⟨hi2,hk,mq,OX,Xh⟩:=hI
  show TT _ _ _ [(0,P),(6,.pointer (some ⟨gB,0,none⟩)),(9,.pointer (some ⟨mH,0,none⟩)),(12,.int .i64 d),(47,.slice ai n.kids.length ci),(48,.int .i64 (n.kids.length:Nat)),(49,.int .i64 (i:Nat))] ([(mH,blk [.bool n.leaf,.slice ac n.cells.length cc,.slice ak n.keys.length ck,.slice ai n.kids.length ci] 159 (0,0))]::H3::KB::KC::[(gB,blk [.string lo,.string hi] 186 (0,0))]::r)
  refine TT.seq (.region (.U hT 1 rfl (.nil (.seq (.seq (.cond rfl (fun gr=> ?_) (fun gr=> ?_)))))))
  .
   have gr:=of_decide_eq_true gr
   obtain⟨x,hx⟩:=nth (l:=n.kids) (i:=i) (by omega)
   refine TT.skip (.seq (.seq (.block (.seq (.region (.U hT 1 rfl (.index hT rfl rfl rfl rfl nj.row.there.there.there (by omega) (by rw[Int.toNat_natCast];exact hx) rfl (fun S8 KV=> ?_))))))))
   refine OT.load rfl rfl (KV.ct hT rfl rfl) rfl (.U hT 2 rfl (.nil (.seq (.seq (.region (.load rfl rfl (Ld.af hT rfl hz rfl) rfl ?_))))))
   refine OT.alloc Tryz.zeroValue186 rfl rfl (fun MP=> ?_)
   refine OT.ag hT rfl rfl rfl rfl pl rfl rfl rfl (.inl (Nat.le_refl _)) ?_
   refine OT.nil (.seq (.seq (.seq (.region (.U hT 2 rfl (.nil (.seq (.cond rfl (fun FX=> ?_) (fun FX=> ?_)))))))))
   .
    have FX:0<i:=by have:=of_decide_eq_true FX;omega
    obtain⟨kl,ng⟩:=nth (l:=n.keys) (i:=i-1) (by omega)
    have hlo:=uO (lo:=lo) FX ng
    refine TT.region (.U hT 1 rfl (.load rfl rfl (Ld.slc hT rfl hz rfl) rfl ?_))
    refine OT.U hT 2 rfl (.index hT rfl rfl rfl rfl pR.row.there.there.there (by rw[wrap_i64 (by omega) (by omega)];omega) (by rw[wrap_i64 (by omega) (by omega),show((i:Int)-1).toNat=i-1 by omega];exact ng) rfl (fun S9 KW=> ?_))
    refine OT.load rfl rfl (KW.ct hT rfl rfl) rfl (.U hT 1 rfl (.store hT rfl rfl rfl rfl pl rfl (Nat.le_of_ble_eq_true rfl) rfl (.inl (Nat.le_refl _)) rfl ?_))
    refine OT.nil (.seq (.seq (.seq (.region (.U hT 2 rfl (.load rfl rfl (Ld.slc hT rfl hz rfl) rfl ?_))))))
    refine OT.U hT 2 rfl (.nil (.seq (.cond rfl (fun yw=> ?_) (fun yw=> ?_))))
    .
     have yw:i<n.keys.length:=by have:=of_decide_eq_true yw;omega
     obtain⟨kh,L9⟩:=nth (l:=n.keys) (i:=i) (by omega)
     have hhi:=nU (hi:=hi) yw L9
     refine TT.region (.U hT 1 rfl (.load rfl rfl (Ld.slc hT rfl hz rfl) rfl ?_))
     refine OT.U hT 1 rfl (.index hT rfl rfl rfl rfl pR.row.there.there.there (by omega) (by rw[Int.toNat_natCast];exact L9) rfl (fun NY zD=> ?_))
     refine OT.load rfl rfl (zD.ct hT rfl rfl) rfl (.U hT 1 rfl (.store hT rfl rfl rfl rfl pl rfl (Nat.le_of_ble_eq_true rfl) rfl (.inl (Nat.le_refl _)) rfl ?_))
     refine OT.nil (.seq (.seq (.region (.U hT 2 rfl (.load rfl rfl (Ld.af hT rfl hz rfl) rfl ?_)))))
     refine OT.aR Tryz.call116 rfl rfl rfl rfl (aH.pull pl (ih (hni.kP (List.mem_of_getElem? hx)) (Oz _ (List.mem_of_getElem? hx)) mq)) (fun _ _ h=>by
      obtain⟨e,H',rfl,he,rfl,⟨h1,h2⟩|h2⟩:=h
      . exact PP.of ⟨e,H',rfl,he,rfl,.inl ⟨(by rw[cS hrd hlf];exact a_ (ec (m:=i+1) (by omega) (lS hk hx hlo hhi h1))),h2⟩⟩ sl
      . exact PP.of ⟨e,H',rfl,he,rfl,.inr h2⟩ sl) ?_
     rintro JS D4 ⟨H4,d2,rfl,rfl,sS,nk,PI,PJ⟩
     have hkn:=gW hk hx hlo hhi sS
     refine OT.U hT 1 rfl (.nil (.seq (.seq (.region (.U hT 3 rfl (.split 81 rfl (fun yx=> ?_) (fun yx=> ?_)))))))
     .
      refine OT.U hT 4 rfl (.call Tryz.call118 rfl rfl rfl rfl (cT) ?_)
      rintro vK pN ⟨rfl,rfl⟩
      rw[if_pos (.inl (of_decide_eq_true yx))]at hkn
      refine OT.nil (.seq (.region (.U hT 2 rfl (.nil (.blk (.seq (.region (.U hT 2 rfl (.nil (.loop (i+1,d2,H4) ?_ ?_ (aa.cons rfl (aa.cons rfl (aa.cons rfl (aa.cons rfl (aa.cons rfl (aa.cons rfl (aa.aD rfl (by(try dsimp only);exact(int_eq (by rw[wrap_i64 (by omega) (by omega)];omega))) (aa.nil _)))))))) sl))))))))))
      . dsimp only
        exact⟨by omega,hkn,nk,by omega,by omega⟩
      . dsimp only
        omega
     .
      refine OT.U hT 4 rfl ?_
      refine OT.aR Tryz.call118 rfl rfl rfl rfl (aU) (fun _ _ h=>by
       obtain⟨hb,rfl,rfl⟩:=h
       have hb:¬d2=d:=by simpa using hb
       exact PP.of ⟨8,H4,by rw[bJ (by decide)],by decide,rfl,.inl ⟨(by rw[cS hrd hlf];refine a_ (ec (m:=i+1) (by omega) (hkn.trans (if_neg ?_)));exact fun h=>h.elim (of_decide_eq_false yx) hb),nk⟩⟩ sl) ?_
      rintro vK pN ⟨hb,rfl,rfl⟩
      have hb:d2=d:=by simpa using hb
      rw[if_pos (.inr hb)]at hkn
      refine OT.nil (.seq (.region (.U hT 2 rfl (.nil (.blk (.seq (.region (.U hT 2 rfl (.nil (.loop (i+1,d2,H4) ?_ ?_ (aa.cons rfl (aa.cons rfl (aa.cons rfl (aa.cons rfl (aa.cons rfl (aa.cons rfl (aa.aD rfl (by(try dsimp only);exact(int_eq (by rw[wrap_i64 (by omega) (by omega)];omega))) (aa.nil _)))))))) sl))))))))))
      . dsimp only
        exact⟨by omega,hkn,nk,by omega,by omega⟩
      . dsimp only
        omega
    .
     have yw:¬i<n.keys.length:=by have:=of_decide_eq_false yw;omega
     have hhi:=rB (n:=n) (hi:=hi) yw
     refine TT.skip (.seq (.seq (.region (.U hT 2 rfl (.load rfl rfl (Ld.af hT rfl hz rfl) rfl ?_)))))
     refine OT.aR Tryz.call116 rfl rfl rfl rfl (aH.pull pl (ih (hni.kP (List.mem_of_getElem? hx)) (Oz _ (List.mem_of_getElem? hx)) mq)) (fun _ _ h=>by
      obtain⟨e,H',rfl,he,rfl,⟨h1,h2⟩|h2⟩:=h
      . exact PP.of ⟨e,H',rfl,he,rfl,.inl ⟨(by rw[cS hrd hlf];exact a_ (ec (m:=i+1) (by omega) (lS hk hx hlo hhi h1))),h2⟩⟩ sl
      . exact PP.of ⟨e,H',rfl,he,rfl,.inr h2⟩ sl) ?_
     rintro JS D4 ⟨H4,d2,rfl,rfl,sS,nk,PI,PJ⟩
     have hkn:=gW hk hx hlo hhi sS
     refine OT.U hT 1 rfl (.nil (.seq (.seq (.region (.U hT 3 rfl (.split 81 rfl (fun yx=> ?_) (fun yx=> ?_)))))))
     .
      refine OT.U hT 4 rfl (.call Tryz.call118 rfl rfl rfl rfl (cT) ?_)
      rintro vK pN ⟨rfl,rfl⟩
      rw[if_pos (.inl (of_decide_eq_true yx))]at hkn
      refine OT.nil (.seq (.region (.U hT 2 rfl (.nil (.blk (.seq (.region (.U hT 2 rfl (.nil (.loop (i+1,d2,H4) ?_ ?_ (aa.cons rfl (aa.cons rfl (aa.cons rfl (aa.cons rfl (aa.cons rfl (aa.cons rfl (aa.aD rfl (by(try dsimp only);exact(int_eq (by rw[wrap_i64 (by omega) (by omega)];omega))) (aa.nil _)))))))) sl))))))))))
      . dsimp only
        exact⟨by omega,hkn,nk,by omega,by omega⟩
      . dsimp only
        omega
     .
      refine OT.U hT 4 rfl ?_
      refine OT.aR Tryz.call118 rfl rfl rfl rfl (aU) (fun _ _ h=>by
       obtain⟨hb,rfl,rfl⟩:=h
       have hb:¬d2=d:=by simpa using hb
       exact PP.of ⟨8,H4,by rw[bJ (by decide)],by decide,rfl,.inl ⟨(by rw[cS hrd hlf];refine a_ (ec (m:=i+1) (by omega) (hkn.trans (if_neg ?_)));exact fun h=>h.elim (of_decide_eq_false yx) hb),nk⟩⟩ sl) ?_
      rintro vK pN ⟨hb,rfl,rfl⟩
      have hb:d2=d:=by simpa using hb
      rw[if_pos (.inr hb)]at hkn
      refine OT.nil (.seq (.region (.U hT 2 rfl (.nil (.blk (.seq (.region (.U hT 2 rfl (.nil (.loop (i+1,d2,H4) ?_ ?_ (aa.cons rfl (aa.cons rfl (aa.cons rfl (aa.cons rfl (aa.cons rfl (aa.cons rfl (aa.aD rfl (by(try dsimp only);exact(int_eq (by rw[wrap_i64 (by omega) (by omega)];omega))) (aa.nil _)))))))) sl))))))))))
      . dsimp only
        exact⟨by omega,hkn,nk,by omega,by omega⟩
      . dsimp only
        omega
   .
    have FX:¬0<i:=by have:=of_decide_eq_false FX;omega
    have hlo:=Bd (n:=n) (lo:=lo) FX
    refine TT.skip (.seq (.seq (.seq (.region (.U hT 2 rfl (.load rfl rfl (Ld.slc hT rfl hz rfl) rfl ?_))))))
    refine OT.U hT 2 rfl (.nil (.seq (.cond rfl (fun yw=> ?_) (fun yw=> ?_))))
    .
     have yw:i<n.keys.length:=by have:=of_decide_eq_true yw;omega
     obtain⟨kh,L9⟩:=nth (l:=n.keys) (i:=i) (by omega)
     have hhi:=nU (hi:=hi) yw L9
     refine TT.region (.U hT 1 rfl (.load rfl rfl (Ld.slc hT rfl hz rfl) rfl ?_))
     refine OT.U hT 1 rfl (.index hT rfl rfl rfl rfl pR.row.there.there.there (by omega) (by rw[Int.toNat_natCast];exact L9) rfl (fun NY zD=> ?_))
     refine OT.load rfl rfl (zD.ct hT rfl rfl) rfl (.U hT 1 rfl (.store hT rfl rfl rfl rfl pl rfl (Nat.le_of_ble_eq_true rfl) rfl (.inl (Nat.le_refl _)) rfl ?_))
     refine OT.nil (.seq (.seq (.region (.U hT 2 rfl (.load rfl rfl (Ld.af hT rfl hz rfl) rfl ?_)))))
     refine OT.aR Tryz.call116 rfl rfl rfl rfl (aH.pull pl (ih (hni.kP (List.mem_of_getElem? hx)) (Oz _ (List.mem_of_getElem? hx)) mq)) (fun _ _ h=>by
      obtain⟨e,H',rfl,he,rfl,⟨h1,h2⟩|h2⟩:=h
      . exact PP.of ⟨e,H',rfl,he,rfl,.inl ⟨(by rw[cS hrd hlf];exact a_ (ec (m:=i+1) (by omega) (lS hk hx hlo hhi h1))),h2⟩⟩ sl
      . exact PP.of ⟨e,H',rfl,he,rfl,.inr h2⟩ sl) ?_
     rintro JS D4 ⟨H4,d2,rfl,rfl,sS,nk,PI,PJ⟩
     have hkn:=gW hk hx hlo hhi sS
     refine OT.U hT 1 rfl (.nil (.seq (.seq (.region (.U hT 3 rfl (.split 81 rfl (fun yx=> ?_) (fun yx=> ?_)))))))
     .
      refine OT.U hT 4 rfl (.call Tryz.call118 rfl rfl rfl rfl (cT) ?_)
      rintro vK pN ⟨rfl,rfl⟩
      rw[if_pos (.inl (of_decide_eq_true yx))]at hkn
      refine OT.nil (.seq (.region (.U hT 2 rfl (.nil (.blk (.seq (.region (.U hT 2 rfl (.nil (.loop (i+1,d2,H4) ?_ ?_ (aa.cons rfl (aa.cons rfl (aa.cons rfl (aa.cons rfl (aa.cons rfl (aa.cons rfl (aa.aD rfl (by(try dsimp only);exact(int_eq (by rw[wrap_i64 (by omega) (by omega)];omega))) (aa.nil _)))))))) sl))))))))))
      . dsimp only
        exact⟨by omega,hkn,nk,by omega,by omega⟩
      . dsimp only
        omega
     .
      refine OT.U hT 4 rfl ?_
      refine OT.aR Tryz.call118 rfl rfl rfl rfl (aU) (fun _ _ h=>by
       obtain⟨hb,rfl,rfl⟩:=h
       have hb:¬d2=d:=by simpa using hb
       exact PP.of ⟨8,H4,by rw[bJ (by decide)],by decide,rfl,.inl ⟨(by rw[cS hrd hlf];refine a_ (ec (m:=i+1) (by omega) (hkn.trans (if_neg ?_)));exact fun h=>h.elim (of_decide_eq_false yx) hb),nk⟩⟩ sl) ?_
      rintro vK pN ⟨hb,rfl,rfl⟩
      have hb:d2=d:=by simpa using hb
      rw[if_pos (.inr hb)]at hkn
      refine OT.nil (.seq (.region (.U hT 2 rfl (.nil (.blk (.seq (.region (.U hT 2 rfl (.nil (.loop (i+1,d2,H4) ?_ ?_ (aa.cons rfl (aa.cons rfl (aa.cons rfl (aa.cons rfl (aa.cons rfl (aa.cons rfl (aa.aD rfl (by(try dsimp only);exact(int_eq (by rw[wrap_i64 (by omega) (by omega)];omega))) (aa.nil _)))))))) sl))))))))))
      . dsimp only
        exact⟨by omega,hkn,nk,by omega,by omega⟩
      . dsimp only
        omega
    .
     have yw:¬i<n.keys.length:=by have:=of_decide_eq_false yw;omega
     have hhi:=rB (n:=n) (hi:=hi) yw
     refine TT.skip (.seq (.seq (.region (.U hT 2 rfl (.load rfl rfl (Ld.af hT rfl hz rfl) rfl ?_)))))
     refine OT.aR Tryz.call116 rfl rfl rfl rfl (aH.pull pl (ih (hni.kP (List.mem_of_getElem? hx)) (Oz _ (List.mem_of_getElem? hx)) mq)) (fun _ _ h=>by
      obtain⟨e,H',rfl,he,rfl,⟨h1,h2⟩|h2⟩:=h
      . exact PP.of ⟨e,H',rfl,he,rfl,.inl ⟨(by rw[cS hrd hlf];exact a_ (ec (m:=i+1) (by omega) (lS hk hx hlo hhi h1))),h2⟩⟩ sl
      . exact PP.of ⟨e,H',rfl,he,rfl,.inr h2⟩ sl) ?_
     rintro JS D4 ⟨H4,d2,rfl,rfl,sS,nk,PI,PJ⟩
     have hkn:=gW hk hx hlo hhi sS
     refine OT.U hT 1 rfl (.nil (.seq (.seq (.region (.U hT 3 rfl (.split 81 rfl (fun yx=> ?_) (fun yx=> ?_)))))))
     .
      refine OT.U hT 4 rfl (.call Tryz.call118 rfl rfl rfl rfl (cT) ?_)
      rintro vK pN ⟨rfl,rfl⟩
      rw[if_pos (.inl (of_decide_eq_true yx))]at hkn
      refine OT.nil (.seq (.region (.U hT 2 rfl (.nil (.blk (.seq (.region (.U hT 2 rfl (.nil (.loop (i+1,d2,H4) ?_ ?_ (aa.cons rfl (aa.cons rfl (aa.cons rfl (aa.cons rfl (aa.cons rfl (aa.cons rfl (aa.aD rfl (by(try dsimp only);exact(int_eq (by rw[wrap_i64 (by omega) (by omega)];omega))) (aa.nil _)))))))) sl))))))))))
      . dsimp only
        exact⟨by omega,hkn,nk,by omega,by omega⟩
      . dsimp only
        omega
     .
      refine OT.U hT 4 rfl ?_
      refine OT.aR Tryz.call118 rfl rfl rfl rfl (aU) (fun _ _ h=>by
       obtain⟨hb,rfl,rfl⟩:=h
       have hb:¬d2=d:=by simpa using hb
       exact PP.of ⟨8,H4,by rw[bJ (by decide)],by decide,rfl,.inl ⟨(by rw[cS hrd hlf];refine a_ (ec (m:=i+1) (by omega) (hkn.trans (if_neg ?_)));exact fun h=>h.elim (of_decide_eq_false yx) hb),nk⟩⟩ sl) ?_
      rintro vK pN ⟨hb,rfl,rfl⟩
      have hb:d2=d:=by simpa using hb
      rw[if_pos (.inr hb)]at hkn
      refine OT.nil (.seq (.region (.U hT 2 rfl (.nil (.blk (.seq (.region (.U hT 2 rfl (.nil (.loop (i+1,d2,H4) ?_ ?_ (aa.cons rfl (aa.cons rfl (aa.cons rfl (aa.cons rfl (aa.cons rfl (aa.cons rfl (aa.aD rfl (by(try dsimp only);exact(int_eq (by rw[wrap_i64 (by omega) (by omega)];omega))) (aa.nil _)))))))) sl))))))))))
      . dsimp only
        exact⟨by omega,hkn,nk,by omega,by omega⟩
      . dsimp only
        omega
  .
   have gr:=of_decide_eq_false gr
   obtain rfl:i=n.kids.length:=by omega
   refine TT.exit (.seq (.loop (.here (.seq (.seq (.region (.U hT 3 rfl (.nil (.seq (.ret (.iF (rs:=[.tmp 8]) [_] (H3::r) rfl (.tmp rfl .nil) sl ?_)))))))))))
   try dsimp only[one]
   refine⟨H3,d+1,rfl,int_eq (by rw[wrap_i64 (by omega) (by omega)]),by rw[cS hrd hlf];exact aK hk,mq,by omega,by omega⟩
theorem Fv{P:Value}{I:Chunk->Prop}{E:Int->Chunk->Prop}{pg:Pg}(hP:nC Tryz.prog 5 P I E pg):∀(f:Nat),f<=64->∀{lo hi:ByteArray} {top:Bool} {H:Chunk} {r:List Chunk} {no:Int},av no->Deep pg f no->I H->aH Tryz.prog 116 [P,.int .i64 no,.agg ⟨[.string lo,.string hi]⟩,.bool top] (H::r) (fun v' hs'=>∃H' d,hs'=H'::r/\v'= .int .i64 d/\dB pg f no lo hi top= .ok d/\I H'/\0<=d/\d<((f:Nat):Int)) (dJ I E (fun e=>dB pg f no lo hi top= .error e) r):=by
 intro f
 induction f with
 |zero=>intro _ lo hi top H r no _ hd;exact hd.elim
 |succ f ih=>intro hf lo hi top H r no hno hd hI;exact CR hP (by omega) (ih (by omega)) hno hd hI
end Go.Proofs.YtihpkgmfkbkffaaGreat.Sx
end
section
namespace Go.Proofs.YtihpkgmfkbkffaaGreat.Sx
open Go Go.Sx Go.Pl
variable[aq]
set_option maxHeartbeats 4000000 in
set_option maxRecDepth 100000 in
theorem CS{P:Value}{I:Chunk->Prop}{E:Int->Chunk->Prop}{pg:Pg}{H:Chunk}{r:List Chunk}(hP:nC Tryz.prog 5 P I E pg)(hI:I H){g:az}(mu:eK pg= .ok g){A K1:Chunk}{bt bl bw cn:Nat}{an:Option Addr}{vc:Value}(dU:Own Go.Sx.cZ 1 3 (.slice an g.1.length cn) g.1 K1):aH Tryz.prog 115 [.pointer (some ⟨bl,0,none⟩),.pointer (some ⟨bt,0,none⟩)] (A::[(bl,blk [.pointer (some ⟨bw,0,none⟩)] 178 (0,0))]::[(bt,blk [P] 107 (0,0))]::[(bw,blk [P,.slice an g.1.length cn,vc] 182 (0,0))]::K1::H::r) (fun _ hs'=>∃dz,hs'=A::dz/\∃H',dD pg= .ok ()/\I H'/\dz=H'::r) (fun v' hs'=>∃e dz,hs'=A::dz/\v'=sw e/\e≠0/\∃H',dz=H'::r/\((dD pg= .error e/\I H')\/∃e0,E e0 H')):=by
 refine aH.enter 43 Tryz.func115 rfl Tryz.ntmps115 rfl ?_
 have Sa:=(nT mu).1
 refine TT.cut (ι:=Chunk×Int) (fun j=>gQ pg g= .ok (j.2)/\I (j.1)) (fun j=>[(0,.pointer (some ⟨bl,0,none⟩)),(1,.pointer (some ⟨bt,0,none⟩))]) (fun j=>A::[(bl,blk [.pointer (some ⟨bw,0,none⟩)] 178 (0,0))]::[(bt,blk [P] 107 (0,0))]::[(bw,blk [P,.slice an g.1.length cn,vc] 182 (0,0))]::K1::(j.1)::r) ?_ ?_
 .
  refine TT.seq (.region (.load rfl rfl (Ld.one hT rfl hz rfl) rfl ?_))
  refine OT.U hT 2 rfl (.load rfl rfl (Ld.slc hT rfl hz rfl) rfl ?_)
  refine OT.U hT 2 rfl (.nil (.seq (.cond rfl (fun c_=> ?_) (fun c_=> ?_))))
  .
   have hne:g.1≠[]:=by
    intro e;rw[e]at c_;exact absurd (of_decide_eq_true c_) (by simp)
   obtain⟨no,l,Sb,hno,PF⟩:=(Ce mu).resolve_left (fun h=>hne h.1)
   have hn0:g.1[0]? =some no:=by rw[Sb];rfl
   have hgd:g.1.getD 0 0=no:=by rw[Sb];rfl
   refine TT.draw (([(bl,blk [.pointer (some ⟨bw,0,none⟩)] 178 (0,0))]::[(bt,blk [P] 107 (0,0))]::[(bw,blk [P,.slice an g.1.length cn,vc] 182 (0,0))]::K1::r)) mixed (.take (fuel:=8) hT 0 rfl rfl kr kr kr rfl (.load rfl (Ld.one hT rfl hz rfl)) rfl ?_)
   refine AT.take (fuel:=7) hT 1 rfl rfl kr kr kr rfl (.load rfl (Ld.one hT rfl hz rfl)) rfl ?_
   refine AT.takes (fuel:=5) hT [2,3] kr kr rfl (.take (fuel:=4) hT 4 rfl rfl kr kr kr rfl (.load rfl (Ld.slc hT rfl hz rfl)) rfl ?_)
   refine AT.take (fuel:=3) hT 7 rfl rfl kr kr kr rfl (fk hT rfl Tryz.zeroValue186 rfl rfl) rfl (.index (fuel:=2) hT 5 rfl kr kr kr rfl rfl rfl rfl dU.row.there.there.there (by omega) hn0 rfl (fun NF zu=> ?_))
   refine AT.take (fuel:=1) hT 6 rfl rfl kr kr kr rfl (.load rfl (zu.ct hT rfl rfl)) rfl (.op (fuel:=0) 8 kr rfl sl ?_)
   refine OT.aR Tryz.call116 rfl rfl rfl rfl (aH.pull pl (Fv hP 32 (by decide) hno PF hI)) (fun _ _ h=>by
    obtain⟨e,H',rfl,he,rfl,⟨h1,h2⟩|⟨e0,h2⟩⟩:=h
    . exact PP.of ⟨e,_,rfl,rfl,he,H',rfl,.inl ⟨(sB mu ((kY hne).trans (by rw[hgd];exact h1))),h2⟩⟩ sl
    . exact PP.of ⟨e,_,rfl,rfl,he,H',rfl,.inr ⟨e0,h2⟩⟩ sl) ?_
   rintro uf wz ⟨H2,d,rfl,rfl,sS,dH,_,_⟩
   refine OT.nil (.any (.done kr sl (.cut (H2,d) ?_ (aa.cons rfl (aa.cons rfl (aa.nil _))) sl)))
   . dsimp only
     exact⟨(kY hne).trans (by rw[hgd];exact sS),dH⟩
  .
   have hne:g.1=[]:=List.length_eq_zero_iff.1 (by have:=of_decide_eq_false c_;omega)
   refine TT.skip (.cut (H,0) ?_ (aa.cons rfl (aa.cons rfl (aa.nil _))) sl)
   . dsimp only
     exact⟨r9 hne,hI⟩
 .
  rintro⟨H1,d⟩ hI
  dsimp only at hI
  obtain⟨I6,fS⟩:=hI
  show TT _ _ _ [(0,.pointer (some ⟨bl,0,none⟩)),(1,.pointer (some ⟨bt,0,none⟩))] (A::[(bl,blk [.pointer (some ⟨bw,0,none⟩)] 178 (0,0))]::[(bt,blk [P] 107 (0,0))]::[(bw,blk [P,.slice an g.1.length cn,vc] 182 (0,0))]::K1::H1::r)
  refine TT.seq (.region (.U hT 1 rfl (.nil (.seq (.block (.loop (ι:=Nat×Chunk) (fun j=>(j.1)<=32/\I (j.2)/\zh (aX (pg 1)).2 g (j.1)/\(0<(j.1)->(aX (pg 1)).1=0)) (fun j=>32-(j.1)) (fun j=>[(0,.pointer (some ⟨bl,0,none⟩)),(1,.pointer (some ⟨bt,0,none⟩)),(20,.int .i64 ((j.1):Nat))]) (fun j=>A::[(bl,blk [.pointer (some ⟨bw,0,none⟩)] 178 (0,0))]::[(bt,blk [P] 107 (0,0))]::[(bw,blk [P,.slice an g.1.length cn,vc] 182 (0,0))]::K1::(j.2)::r) (0,H1) ?_ (aa.cons rfl (aa.cons rfl (aa.cons rfl (aa.nil _)))) sl ?_))))))
  . dsimp only
    exact⟨Nat.zero_le _,fS,fun no h=>absurd h (Nat.not_lt_zero _),fun h=>absurd h (Nat.lt_irrefl 0)⟩
  rintro⟨i,H3⟩ hI
  dsimp only at hI
  obtain⟨hi,mq,hm,hw⟩:=hI
  show TT _ _ _ [(0,.pointer (some ⟨bl,0,none⟩)),(1,.pointer (some ⟨bt,0,none⟩)),(20,.int .i64 (i:Nat))] (A::[(bl,blk [.pointer (some ⟨bw,0,none⟩)] 178 (0,0))]::[(bt,blk [P] 107 (0,0))]::[(bw,blk [P,.slice an g.1.length cn,vc] 182 (0,0))]::K1::H3::r)
  refine TT.seq (.region (.U hT 1 rfl (.nil (.seq (.seq (.cond rfl (fun ef=> ?_) (fun ef=> ?_)))))))
  .
   have ef:=of_decide_eq_true ef
   refine TT.skip (.seq (.seq (.block (.seq (.region (.U hT 2 rfl (.nil (.seq (.seq (.region (.load rfl rfl (Ld.one hT rfl hz rfl) rfl ?_)))))))))))
   refine OT.U hT 1 rfl (.call Tryz.call117 rfl rfl rfl rfl (ax.pull pl (Ab hP mq)) ?_)
   rintro Dn DP ⟨H4,b,e,rfl,rfl,hu⟩
   refine OT.U hT 5 rfl (.nil (.seq (.seq (.region (.U hT 3 rfl ?_)))))
   refine OT.aR Tryz.call118 rfl rfl rfl rfl (aU) (fun _ _ h=>by
    obtain⟨hb,rfl,rfl⟩:=h
    have hb:e≠0:=by simpa using hb
    refine PP.of ⟨e,_,rfl,by rw[bJ hb],hb,H4,rfl,?_⟩ sl
    rcases hu with⟨h,_⟩|⟨_,_,⟨h1,h2⟩|h2⟩
    . exact absurd h hb
    . exact .inl ⟨sO mu I6 h1 hb,h2⟩
    . exact .inr ⟨e,h2⟩) ?_
   rintro Mz Ny ⟨hb,rfl,rfl⟩
   have hb:e=0:=by simpa using hb
   obtain⟨_,hw0,Sc,nk⟩:=hu.resolve_right (fun h=>h.1 hb)
   refine OT.nil (.seq (.region (.U hT 1 rfl (.load rfl rfl (Ld.one hT rfl hz rfl) rfl ?_))))
   refine OT.U hT 2 rfl (.load rfl rfl (Ld.slc hT rfl hz rfl) rfl ?_)
   refine OT.U hT 1 rfl (.call Tryz.call119 rfl rfl rfl rfl (ot dU.row.there.there.there.there.there (by omega)) ?_)
   rintro vB v_ ⟨rfl,rfl⟩
   refine OT.U hT 1 rfl ?_
   refine OT.aR Tryz.call118 rfl rfl rfl rfl (aU) (fun _ _ h=>by
    obtain⟨j6,rfl,rfl⟩:=h
    exact PP.of ⟨8,_,rfl,by rw[bJ (by decide)],by decide,H4,rfl,.inl ⟨sP mu I6 hw0 (i:=i) (by omega) (by rw[<-Sc];simpa using j6),nk⟩⟩ sl) ?_
   rintro JB DS ⟨j6,rfl,rfl⟩
   have j6:hasB (aX (pg 1)).2 (i:Nat)=decide ((i:Int)∈g.1):=by rw[<-Sc];simpa using j6
   refine OT.nil (.blk (.seq (.region (.U hT 2 rfl (.nil (.loop (i+1,H4) ?_ ?_ (aa.cons rfl (aa.cons rfl (aa.aD rfl (by(try dsimp only);exact(int_eq (by rw[wrap_i64 (by omega) (by omega)];omega))) (aa.nil _)))) sl))))))
   . dsimp only
     refine⟨by omega,nk,fun no h=> ?_,fun _=>hw0⟩
     by_cases e:no=i
     . subst e;exact j6
     . exact hm no (by omega)
   . dsimp only
     omega
  .
   have ef:=of_decide_eq_false ef
   obtain rfl:i=32:=by omega
   refine TT.exit (.seq (.loop (.here (.iF (rs:=[]) [] (A::H3::r) rfl .nil sl ?_))))
   try dsimp only[one]
   exact⟨_,rfl,H3,qd mu I6 (hw (by decide)) hm,mq,rfl⟩
set_option maxHeartbeats 2000000 in
set_option maxRecDepth 100000 in
theorem Fw{P:Value}{I:Chunk->Prop}{E:Int->Chunk->Prop}{pg:Pg}{H:Chunk}{r:List Chunk}(hP:nC Tryz.prog 5 P I E pg)(hI:I H):ax Tryz.prog 70 [P] (H::r) (fun v' hs'=>∃H' e,v'= .int .i64 e/\hs'=H'::r/\((e=0/\dD pg= .ok ()/\I H')\/(e≠0/\((dD pg= .error e/\I H')\/∃e0,E e0 H')))):=by
 refine ax.enter 15 Tryz.func70 rfl Tryz.ntmps70 rfl ?_
 obtain⟨ti,ui,L8⟩:=hP.iface
 subst L8
 refine TT.seq (.region (.box rfl rfl rfl (fun b_1=> ?_)))
 refine OT.U hT 1 rfl (.nil (.seq (.seq (.region (.load rfl rfl (Ld.one hT rfl hz rfl) rfl ?_)))))
 refine OT.call Tryz.call110 rfl rfl rfl rfl (ax.pull pl (Es hP hI)) ?_
 rintro C9 sG (⟨bw,g,vn,vc,K1,K2,H',rfl,mu,dU,oB,yu,rfl⟩|⟨p,e,H',rfl,he,rfl,mw⟩)
 .
  obtain⟨an,cn,e1⟩:=(dU.row (hs:=[])).len
  subst e1
  have Sa:=nT mu
  refine OT.U hT 3 rfl (.alloc Tryz.zeroValue178 rfl rfl (fun jt=> ?_))
  refine OT.ag hT rfl rfl rfl rfl pl rfl rfl rfl (.inl (Nat.le_refl _)) ?_
  refine OT.U hT 1 rfl (.nil (.seq (.seq (.seq (.region (.U hT 2 rfl (.nil (.seq (.cond rfl (fun sH=> ?_) (fun sH=> ?_))))))))))
  .
   exact absurd sH (by decide)
  .
   refine TT.skip (.seq (.seq (.region (.U hT 1 rfl (.call Tryz.call84 rfl rfl rfl rfl ((lZ (N:=fun _ dz=>∃H',dD pg= .ok ()/\I H'/\dz=H'::r) (E:=fun e dz=>e≠0/\∃H',dz=H'::r/\((dD pg= .error e/\I H')\/∃e0,E e0 H')) Tryz.call115 (fun A=>aH.weaken sl (CS (r:=r) (A:=A) (K1:=K1) (bt:=b_1) (bl:=jt) (bw:=bw) (vc:=vc) hP yu mu dU)))) ?_)))))
   rintro Dp wh (⟨rfl,_,H2,sE,dH,rfl⟩|⟨e,rfl,he,H2,rfl,mw⟩)
   .
    refine OT.U hT 1 rfl (.nil (.seq (.ret (.of (rs:=[.tmp 2]) [_] (H2::r) rfl (.tmp rfl .nil) sl ?_))))
    try dsimp only[one]
    exact⟨H2,0,rfl,rfl,.inl ⟨rfl,sE,dH⟩⟩
   .
    refine OT.U hT 1 rfl (.nil (.seq (.ret (.of (rs:=[.tmp 2]) [_] (H2::r) rfl (.tmp rfl .nil) sl ?_))))
    try dsimp only[one]
    exact⟨H2,e,rfl,rfl,.inr ⟨he,mw⟩⟩
 .
  refine OT.U hT 3 rfl (.alloc Tryz.zeroValue178 rfl rfl (fun jt=> ?_))
  refine OT.ag hT rfl rfl rfl rfl pl rfl rfl rfl (.inl (Nat.le_refl _)) ?_
  refine OT.U hT 1 rfl (.nil (.seq (.seq (.seq (.region (.U hT 2 rfl (.nil (.seq (.cond rfl (fun sH=> ?_) (fun sH=> ?_))))))))))
  .
   refine TT.seq (.region (.U hT 2 rfl (.nil (.seq (.ret (.of (rs:=[.tmp 2]) [_] (H'::r) rfl (.tmp rfl .nil) sl ?_))))))
   try dsimp only[one]
   refine⟨H',e,rfl,rfl,.inr ⟨he,?_⟩⟩
   rcases mw with⟨h1,h2⟩|h2
   . exact .inl ⟨u_ h1,h2⟩
   . exact .inr h2
  .
   exact absurd sH (by simpa using he)
end Go.Proofs.YtihpkgmfkbkffaaGreat.Sx
end
section
namespace Go.Proofs.YtihpkgmfkbkffaaGreat.Sx
open Go Go.Sx Go.Pl
variable[aq]
def i_(b:Nat)(g:az)(H:Chunk):Prop:=∃bk,ej 110 b (.iface 26 (.pointer (some ⟨bk,0,none⟩))) (iN 30 bk C7) C7 g H
theorem jY{bk:Nat}:cM Tryz.prog 5 (.iface 26 (.pointer (some ⟨bk,0,none⟩))) (iN 30 bk C7) (fun _ _=>False) (aI C7):=cM.of (fun no=>by
 unfold aI;split
 . show(fT 256).length<=4096;rw[fu];omega
 . exact Nat.zero_le _) Fm
theorem zE{bk:Nat}{B:Chunk}{r:List Chunk}(hB:iN 30 bk C7 B):ax Tryz.prog 15 [.iface 26 (.pointer (some ⟨bk,0,none⟩))] (B::r) (fun v' hs'=>∃b H',v'= .pointer (some ⟨b,0,none⟩)/\hs'=H'::r/\i_ b ([],[]) H'):=by
 refine(zo (I:=iN 30 bk C7) hB).mono ?_
 rintro v' hs' ⟨b,H',rfl,rfl,h3⟩
 exact⟨b,H',rfl,rfl,bk,C7,⟨_,h3,(s8 _).symm⟩,z7⟩
theorem zF{b:Nat}{g:az}{H:Chunk}{r:List Chunk}(hH:i_ b g H){x:Cell}(fR:x.val.f<2^64/\x.new.f<2^64):ax Tryz.prog 54 [.pointer (some ⟨b,0,none⟩),.agg ⟨aj x⟩] (H::r) (fun v' hs'=>∃H' g' e,hs'=H'::r/\v'= .int .i64 e/\i_ b g' H'/\BE x g g' e):=by
 obtain⟨bk,Qt,hS,hR⟩:=hH
 refine(zB jY dP hS fR).mono ?_
 rintro v' hs' ⟨H',e,rfl,rfl,⟨hm,rfl,j9⟩|⟨hm,⟨Q',rfl,hp,j9⟩|⟨he,hp,j9⟩|hb⟩⟩
 . exact⟨H',g,1,rfl,rfl,⟨bk,Qt,j9,hR⟩,.inl ⟨hm,rfl,rfl⟩⟩
 . obtain⟨g',h1,h2,h3⟩:=hR.Jt hm fR hp
   exact⟨H',g',0,rfl,rfl,⟨bk,Q',j9,h1⟩,.inr (.inl ⟨hm,rfl,h2,h3⟩)⟩
 . obtain⟨rfl,h2,h3,h4⟩:=hR.Ju hm fR hp
   exact⟨H',g,4,rfl,rfl,⟨bk,Qt,j9,hR⟩,.inr (.inr ⟨hm,rfl,rfl,h2,h3,h4⟩)⟩
 . exact(gq hb).elim
theorem KX{b:Nat}{g:az}{H:Chunk}{r:List Chunk}(hH:i_ b g H){k:ByteArray}:ax Tryz.prog 56 [.pointer (some ⟨b,0,none⟩),.string k] (H::r) (fun v' hs'=>∃H' g',hs'=H'::r/\v'= .tuple ⟨[.bool (cq g.2 k).isSome,.int .i64 0]⟩/\i_ b g' H'/\g'.2=ia g.2 k/\g'.1.length<=g.1.length):=by
 obtain⟨bk,Qt,hS,hR⟩:=hH
 refine(zC jY dP hS).mono ?_
 rintro v' hs' ⟨H',has,e,rfl,rfl,⟨Q',rfl,hp,j9⟩|⟨_,_,hp,_⟩|⟨_,hb⟩⟩
 . obtain⟨g',h1,h2,rfl,h3⟩:=hR.Jv hp
   exact⟨H',g',rfl,rfl,⟨bk,Q',j9,h1⟩,h2,h3⟩
 . exact absurd hp hR.Jw
 . exact(gq hb).elim
theorem KY{b:Nat}{g:az}{H:Chunk}{r:List Chunk}(hH:i_ b g H){k:ByteArray}:ax Tryz.prog 53 [.iface 24 (.pointer (some ⟨b,0,none⟩)),.string k] (H::r) (fun v' hs'=>∃H',hs'=H'::r/\v'= .tuple ⟨[.agg ⟨aj ((cq g.2 k).getD noCell)⟩,.bool (cq g.2 k).isSome,.int .i64 0]⟩/\i_ b g H'):=by
 obtain⟨bk,Qt,hS,hR⟩:=hH
 refine(Er (b_ jY dP (Qt:=Qt)).CZ hS).mono ?_
 rintro v' hs' ⟨H',o,e,rfl,rfl,⟨rfl,hp,j9⟩|⟨_,_,⟨hp,_⟩|⟨_,_,hb⟩⟩⟩
 . exact⟨H',rfl,by rw[hR.Mt hp],bk,Qt,j9,hR⟩
 . exact absurd hp hR.Mu
 . exact(gq hb).elim
theorem Hf{b:Nat}{g:az}{H:Chunk}{r:List Chunk}(hH:i_ b g H){s t:ByteArray}:ax Tryz.prog 60 [.iface 24 (.pointer (some ⟨b,0,none⟩)),.string s,.string t] (H::r) (fun v' hs'=>∃H' K v,hs'=H'::K::r/\v'= .tuple ⟨[v,.int .i64 0]⟩/\Own aj 8 113 v (g.2.filter fun c=>bu c.key s t) K/\i_ b g H'):=by
 obtain⟨bk,Qt,hS,hR⟩:=hH
 refine(Bu (b_ jY dP (Qt:=Qt)).CZ hS).mono ?_
 rintro v' hs' (⟨H',K,v,g',rfl,rfl,mu,ho,j9⟩|⟨e,H',rfl,_,rfl,⟨hp,_⟩|⟨_,_,hb⟩⟩)
 . rw[hR.all]at mu
   injection mu with mu
   subst mu
   exact⟨H',K,v,rfl,rfl,ho,bk,Qt,j9,hR⟩
 . rw[hR.all]at hp;cases hp
 . exact(gq hb).elim
theorem xy{b:Nat}{g:az}{H:Chunk}{r:List Chunk}(hH:i_ b g H):ax Tryz.prog 70 [.iface 24 (.pointer (some ⟨b,0,none⟩))] (H::r) (fun v' hs'=>∃H',hs'=H'::r/\v'= .int .i64 0/\i_ b g H'):=by
 obtain⟨bk,Qt,hS,hR⟩:=hH
 refine(Fw (b_ jY dP (Qt:=Qt)).CZ hS).mono ?_
 rintro v' hs' ⟨H',e,rfl,rfl,⟨rfl,_,j9⟩|⟨_,⟨hp,_⟩|⟨_,_,hb⟩⟩⟩
 . exact⟨H',rfl,rfl,bk,Qt,j9,hR⟩
 . rw[hR.check]at hp;cases hp
 . exact(gq hb).elim
omit [aq] in
theorem i_.small{b:Nat}{g:az}{H:Chunk}(h:i_ b g H):g.1.length<=30/\g.2.length<=8192/\rising (keysOf g.2)/\g.1.Nodup/\(∀m∈g.1,av m):=by obtain⟨bk,h⟩:=h;exact h.small
omit [aq] in
theorem i_.any{b:Nat}{g:az}{H:Chunk}(h:i_ b g H)(h0:0<g.2.length):0<g.1.length:=by obtain⟨bk,h⟩:=h;exact h.any h0
omit [aq] in
theorem i_.nil{b:Nat}{g:az}{H:Chunk}(h:i_ b g H)(h0:g.2=[]):g=([],[]):=by obtain⟨bk,h⟩:=h;exact h.nil h0
end Go.Proofs.YtihpkgmfkbkffaaGreat.Sx
end
section
namespace Go.Proofs.YtihpkgmfkbkffaaGreat.Sx
open Go Go.Sx Go.Pl
variable[aq]
theorem oN{P:Value}{I:Chunk->Prop}{Qb:ah}(hP:cM Tryz.prog 5 P I (fun _ _=>False) (aI Qb))(hQ:cC Qb){b:Nat}{g:az}{H:Chunk}{r:List Chunk}(hH:ej 110 b P I Qb g H){x:Cell}(fR:x.val.f<2^64/\x.new.f<2^64):ax Tryz.prog 54 [.pointer (some ⟨b,0,none⟩),.agg ⟨aj x⟩] (H::r) (fun v' hs'=>∃H' g' e,hs'=H'::r/\v'= .int .i64 e/\ej 110 b P I Qb g' H'/\BE x g g' e):=by
 obtain⟨Qt,hS,hR⟩:=hH
 refine(zB hP hQ hS fR).mono ?_
 rintro v' hs' ⟨H',e,rfl,rfl,⟨hm,rfl,j9⟩|⟨hm,⟨Q',rfl,hp,j9⟩|⟨he,hp,j9⟩|hb⟩⟩
 . exact⟨H',g,1,rfl,rfl,⟨Qt,j9,hR⟩,.inl ⟨hm,rfl,rfl⟩⟩
 . obtain⟨g',h1,h2,h3⟩:=hR.Jt hm fR hp
   exact⟨H',g',0,rfl,rfl,⟨Q',j9,h1⟩,.inr (.inl ⟨hm,rfl,h2,h3⟩)⟩
 . obtain⟨rfl,h2,h3,h4⟩:=hR.Ju hm fR hp
   exact⟨H',g,4,rfl,rfl,⟨Qt,j9,hR⟩,.inr (.inr ⟨hm,rfl,rfl,h2,h3,h4⟩)⟩
 . exact(gq hb).elim
theorem Et{P:Value}{I:Chunk->Prop}{Qb:ah}(hP:cM Tryz.prog 5 P I (fun _ _=>False) (aI Qb))(hQ:cC Qb){b:Nat}{g:az}{H:Chunk}{r:List Chunk}(hH:ej 110 b P I Qb g H){k:ByteArray}:ax Tryz.prog 56 [.pointer (some ⟨b,0,none⟩),.string k] (H::r) (fun v' hs'=>∃H' g',hs'=H'::r/\v'= .tuple ⟨[.bool (cq g.2 k).isSome,.int .i64 0]⟩/\ej 110 b P I Qb g' H'/\g'.2=ia g.2 k/\g'.1.length<=g.1.length):=by
 obtain⟨Qt,hS,hR⟩:=hH
 refine(zC hP hQ hS).mono ?_
 rintro v' hs' ⟨H',has,e,rfl,rfl,⟨Q',rfl,hp,j9⟩|⟨_,_,hp,_⟩|⟨_,hb⟩⟩
 . obtain⟨g',h1,h2,rfl,h3⟩:=hR.Jv hp
   exact⟨H',g',rfl,rfl,⟨Q',j9,h1⟩,h2,h3⟩
 . exact absurd hp hR.Jw
 . exact(gq hb).elim
theorem Eu{P:Value}{I:Chunk->Prop}{Qb:ah}(hP:cM Tryz.prog 5 P I (fun _ _=>False) (aI Qb))(hQ:cC Qb){b:Nat}{g:az}{H:Chunk}{r:List Chunk}(hH:ej 110 b P I Qb g H){k:ByteArray}:ax Tryz.prog 53 [.iface 24 (.pointer (some ⟨b,0,none⟩)),.string k] (H::r) (fun v' hs'=>∃H',hs'=H'::r/\v'= .tuple ⟨[.agg ⟨aj ((cq g.2 k).getD noCell)⟩,.bool (cq g.2 k).isSome,.int .i64 0]⟩/\ej 110 b P I Qb g H'):=by
 obtain⟨Qt,hS,hR⟩:=hH
 refine(Er (b_ hP hQ (Qt:=Qt)).CZ hS).mono ?_
 rintro v' hs' ⟨H',o,e,rfl,rfl,⟨rfl,hp,j9⟩|⟨_,_,⟨hp,_⟩|⟨_,_,hb⟩⟩⟩
 . exact⟨H',rfl,by rw[hR.Mt hp],Qt,j9,hR⟩
 . exact absurd hp hR.Mu
 . exact(gq hb).elim
theorem Bv{P:Value}{I:Chunk->Prop}{Qb:ah}(hP:cM Tryz.prog 5 P I (fun _ _=>False) (aI Qb))(hQ:cC Qb){b:Nat}{g:az}{H:Chunk}{r:List Chunk}(hH:ej 110 b P I Qb g H){s t:ByteArray}:ax Tryz.prog 60 [.iface 24 (.pointer (some ⟨b,0,none⟩)),.string s,.string t] (H::r) (fun v' hs'=>∃H' K v,hs'=H'::K::r/\v'= .tuple ⟨[v,.int .i64 0]⟩/\Own aj 8 113 v (g.2.filter fun c=>bu c.key s t) K/\ej 110 b P I Qb g H'):=by
 obtain⟨Qt,hS,hR⟩:=hH
 refine(Bu (b_ hP hQ (Qt:=Qt)).CZ hS).mono ?_
 rintro v' hs' (⟨H',K,v,g',rfl,rfl,mu,ho,j9⟩|⟨e,H',rfl,_,rfl,⟨hp,_⟩|⟨_,_,hb⟩⟩)
 . rw[hR.all]at mu
   injection mu with mu
   subst mu
   exact⟨H',K,v,rfl,rfl,ho,Qt,j9,hR⟩
 . rw[hR.all]at hp;cases hp
 . exact(gq hb).elim
def Lw(s t:Nat)(P:Value)(I:Chunk->Prop)(Qb Qs:ah)(g:az)(H:Chunk):Prop:=∃Qt,aM 110 t (.iface 24 (.pointer (some ⟨s,0,none⟩))) (aM 110 s P I Qb Qs) Qs Qt H/\aL Qt g
theorem Hg{P:Value}{I:Chunk->Prop}{Qb:ah}(hP:cM Tryz.prog 5 P I (fun _ _=>False) (aI Qb))(hQ:cC Qb){s:Nat}{Qs:ah}{g:az}{H:Chunk}{r:List Chunk}(hS:aM 110 s P I Qb Qs H)(hR:aL Qs g):ax Tryz.prog 15 [.iface 24 (.pointer (some ⟨s,0,none⟩))] (H::r) (fun v' hs'=>∃t H',v'= .pointer (some ⟨t,0,none⟩)/\hs'=H'::r/\Lw s t P I Qb Qs g H'):=by
 refine(zo (I:=aM 110 s P I Qb Qs) hS).mono ?_
 rintro v' hs' ⟨t,H',rfl,rfl,h3⟩
 exact⟨t,H',rfl,rfl,Qs,⟨_,h3,(s8 _).symm⟩,hR⟩
theorem Fx{P:Value}{I:Chunk->Prop}{Qb:ah}(hP:cM Tryz.prog 5 P I (fun _ _=>False) (aI Qb))(hQ:cC Qb){s t:Nat}{Qs:ah}(F3:cC Qs){g:az}{H:Chunk}{r:List Chunk}(hH:Lw s t P I Qb Qs g H){x c:Cell}(hm:aA x=true)(fR:x.val.f<2^64/\x.new.f<2^64)(hc:c∈g.2)(hk:c.key=x.key)(hl:(au x).length<=(au c).length):ax Tryz.prog 54 [.pointer (some ⟨t,0,none⟩),.agg ⟨aj x⟩] (H::r) (fun v' hs'=>∃H' g',hs'=H'::r/\v'= .int .i64 0/\Lw s t P I Qb Qs g' H'/\g'.2=bZ g.2 x):=by
 obtain⟨Qt,hS,hR⟩:=hH
 refine(zB (b_ hP hQ) F3 hS fR).mono ?_
 rintro v' hs' ⟨H',e,rfl,rfl,⟨hm',rfl,j9⟩|⟨_,⟨Q',rfl,hp,j9⟩|⟨he,hp,j9⟩|hb⟩⟩
 . rw[hm]at hm';cases hm'
 . obtain⟨g',h1,h2,_⟩:=hR.Jt hm fR hp
   exact⟨H',g',rfl,rfl,⟨Q',j9,h1⟩,h2⟩
 . obtain⟨_,_,_,h4⟩:=hR.Ju hm fR hp
   have:=h4 c hc hk
   omega
 . obtain⟨_,h⟩:=hb
   obtain⟨_,_,_,_,_,_,_,h⟩:=h.is
   exact(gq h).elim
theorem KZ{P:Value}{I:Chunk->Prop}{Qb:ah}(hP:cM Tryz.prog 5 P I (fun _ _=>False) (aI Qb))(hQ:cC Qb){s t:Nat}{Qs:ah}(F3:cC Qs){g:az}{H:Chunk}{r:List Chunk}(hH:Lw s t P I Qb Qs g H){k:ByteArray}:ax Tryz.prog 56 [.pointer (some ⟨t,0,none⟩),.string k] (H::r) (fun v' hs'=>∃H' g' bb,hs'=H'::r/\v'= .tuple ⟨[.bool bb,.int .i64 0]⟩/\Lw s t P I Qb Qs g' H'/\g'.2=ia g.2 k):=by
 obtain⟨Qt,hS,hR⟩:=hH
 refine(zC (b_ hP hQ) F3 hS).mono ?_
 rintro v' hs' ⟨H',has,e,rfl,rfl,⟨Q',rfl,hp,j9⟩|⟨_,_,hp,_⟩|⟨_,hb⟩⟩
 . obtain⟨g',h1,h2,rfl,h3⟩:=hR.Jv hp
   exact⟨H',g',_,rfl,rfl,⟨Q',j9,h1⟩,h2⟩
 . exact absurd hp hR.Jw
 . obtain⟨_,h⟩:=hb
   obtain⟨_,_,_,_,_,_,_,h⟩:=h.is
   exact(gq h).elim
theorem ya{P:Value}{I:Chunk->Prop}{Qb:ah}(hP:cM Tryz.prog 5 P I (fun _ _=>False) (aI Qb))(hQ:cC Qb){s t:Nat}{Qs Qt:ah}(F3:cC Qs){H:Chunk}{r:List Chunk}(hS:aM 110 t (.iface 24 (.pointer (some ⟨s,0,none⟩))) (aM 110 s P I Qb Qs) Qs Qt H):ax Tryz.prog 47 [.pointer (some ⟨t,0,none⟩)] (H::r) (fun v' hs'=>∃ts HI H',hs'=HI::H'::r/\qX 143 5 v' ts HI/\aM 110 t (.iface 24 (.pointer (some ⟨s,0,none⟩))) (aM 110 s P I Qb Qs) Qs Qt H'/\iM ts=yA Qs Qt 96/\(∀x∈iM ts,aF x.1/\x.2.length=256)/\ts.length<=96):=by
 obtain⟨m,hm,rfl⟩:=hS
 refine(sr (bd:=false) (b_ hP hQ) F3 hm).mono ?_
 rintro v' hs' ⟨bd,ts,HI,H',rfl,ho,j9,_,sE,yp,hl⟩
 cases bd with
 |true=>
  obtain⟨_,_,_,_,_,_,_,hb⟩:=j9.is
  exact(gq hb:False).elim
 |false=>exact⟨ts,HI,H',rfl,ho,⟨m,j9,rfl⟩,sE rfl,yp,hl⟩
end Go.Proofs.YtihpkgmfkbkffaaGreat.Sx
end
