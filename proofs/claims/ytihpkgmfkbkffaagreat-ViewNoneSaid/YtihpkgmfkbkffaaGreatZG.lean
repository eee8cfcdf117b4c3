/- Part 7 of what the proofs of these rest on: Pages, None, Open. -/
import Derived.Test.YtihpkgmfkbkffaaGreatZF
import Derived.Test.YtihpkgmfkbkffaaGreatZC
import Derived.Test.YtihpkgmfkbkffaaGreatZB
import Derived.Test.YtihpkgmfkbkffaaGreatZD
import Derived.Test.YtihpkgmfkbkffaaGreatZE
set_option linter.unusedVariables false
set_option linter.unusedSimpArgs false
set_option linter.unusedSectionVars false
section
namespace Go.Proofs.YtihpkgmfkbkffaaGreat.Sx
open Go Go.Sx Go.Pl
variable[au]
omit [au] in
theorem vo(x:Cell):dy (aj x)=true:=rfl
set_option maxHeartbeats 4000000 in
set_option maxRecDepth 100000 in
theorem Ad{cs:List Value}{n:Nd}{hs:List Chunk}(h:gf hs cs n)(hlc:n.cells.length<=1000000)(hlk:n.keys.length<=1000000)(xw:n.kids.length<=1000000):aA Tryz.prog 138 [.agg ⟨cs⟩] hs (fun v' hs'=>v'= .bool (decide (dh n))/\hs=hs'):=by
 refine aA.enter 114 Tryz.func138 rfl Tryz.ntmps138 rfl ?_
 obtain⟨vc,vk,vi,rfl,hc,hk,hi⟩:=h.is
 obtain⟨ac,cc,e1⟩:=hc.len
 obtain⟨ak,ck,e2⟩:=hk.len
 obtain⟨ai,ci,e3⟩:=hi.len
 subst e1 e2 e3
 refine TT.seq (.region (.box rfl rfl rfl (fun b_1=> ?_)))
 refine OT.U hT 1 rfl (.nil (.seq (.seq (.seq (.region (.U hT 1 rfl (.load rfl rfl (Ld.slc hT rfl hz rfl) rfl ?_)))))))
 refine OT.U hT 2 rfl (.nil (.seq (.block (.loop (ι:=Nat) (fun j=>(j)<=n.cells.length/\(0<(j)->n.leaf=true)/\(∀c∈n.cells.take (j),aC c=true)/\rising ((n.cells.take (j)).map Cell.key)) (fun j=>n.cells.length-(j)) (fun j=>[(1,.pointer (some ⟨b_1,0,none⟩)),(10,.slice ac n.cells.length cc),(11,.int .i64 (n.cells.length:Nat)),(12,.int .i64 ((j):Nat))]) (fun j=>[(b_1,blk [.bool n.leaf,.slice ac n.cells.length cc,.slice ak n.keys.length ck,.slice ai n.kids.length ci] 159 (0,0))]::hs) (0) ?_ (aa.cons rfl (aa.cons rfl (aa.cons rfl (aa.cons rfl (aa.nil _))))) sl ?_))))
 . exact⟨by omega,by omega,by simp,by simp[rising]⟩
 rintro i ⟨hin,hlf,zx,xo⟩
 show TT _ _ _ [(1,.pointer (some ⟨b_1,0,none⟩)),(10,.slice ac n.cells.length cc),(11,.int .i64 (n.cells.length:Nat)),(12,.int .i64 (i:Nat))] ([(b_1,blk [.bool n.leaf,.slice ac n.cells.length cc,.slice ak n.keys.length ck,.slice ai n.kids.length ci] 159 (0,0))]::hs)
 refine TT.seq (.region (.U hT 1 rfl (.nil (.seq (.seq (.cond rfl (fun gM=> ?_) (fun gM=> ?_)))))))
 .
  have gM:=of_decide_eq_true gM
  obtain⟨x,hx⟩:=nth (l:=n.cells) (i:=i) (by omega)
  refine TT.skip (.seq (.seq (.block (.seq (.region (.U hT 1 rfl (.index hT rfl rfl rfl rfl hc.there (by omega) (by rw[Int.toNat_natCast];exact hx) rfl (fun OE Ab=> ?_))))))))
  refine OT.load rfl rfl (Ab.cO hT rfl) rfl (.alloc Tryz.zeroValue113 rfl rfl (fun nW=> ?_))
  refine OT.U hT 1 rfl (.ag hT rfl rfl rfl rfl pl (by rfl) rfl (vo x) (.inl (Nat.le_refl _)) ?_)
  refine OT.nil (.seq (.seq (.draw (([(nW,blk (aj x) 113 (0,0))]::[(b_1,blk [.bool n.leaf,.slice ac n.cells.length cc,.slice ak n.keys.length ck,.slice ai n.kids.length ci] 159 (0,0))]::hs)) mixed (.takes (fuel:=23) hT [0] kr kr rfl (.take (fuel:=22) hT 1 rfl rfl kr kr kr rfl (.load rfl (Ld.one hT rfl hz rfl)) rfl ?_)))))
  refine AT.takes (fuel:=20) hT [2,3] kr kr rfl (.split 20 rfl (fun Eg=> ?_) (fun Eg=> ?_))
  .
   have CR:n.leaf=false:=by simpa using Eg
   refine AT.takes (fuel:=0) hT [4,5,6,7,8,9,10,11,12,13,14,15,16,17,18,19,20,21,22,23] kr kr rfl (.done kr sl (.seq (.cond_true rfl (.seq (.region (.U hT 1 rfl (.nil (.seq (.ret (.of (rs:=[.tmp 2]) [_] hs rfl (.tmp rfl .nil) sl ?_))))))))))
   try dsimp only[one]
   refine⟨congrArg Value.bool (decide_eq_false fun hm=> ?_).symm,rfl⟩
   have:=(sg hm hx).1;rw[CR]at this;cases this
  .
   have nR:n.leaf=true:=by simpa using Eg
   refine AT.take (fuel:=19) hT 4 rfl rfl kr kr kr rfl (.load rfl (Ld.af hT rfl hz rfl)) rfl ?_
   refine AT.op (fuel:=18) 5 kr rfl sl (.call Tryz.call99 rfl rfl rfl rfl (vV) ?_)
   rintro CM uu ⟨rfl,rfl⟩
   refine OT.nil (.any (.takes (fuel:=15) hT [6,7,8] kr kr rfl (.split 25 rfl (fun QA=> ?_) (fun QA=> ?_))))
   .
    have hm0:aC x=false:=by simpa using QA
    refine AT.takes (fuel:=0) hT [9,10,11,12,13,14,15,16,17,18,19,20,21,22,23] kr kr rfl (.done kr sl (.seq (.cond_true rfl (.seq (.region (.U hT 1 rfl (.nil (.seq (.ret (.of (rs:=[.tmp 2]) [_] hs rfl (.tmp rfl .nil) sl ?_))))))))))
    try dsimp only[one]
    refine⟨congrArg Value.bool (decide_eq_false fun hm=> ?_).symm,rfl⟩
    have:=(sg hm hx).2.1;rw[hm0]at this;cases this
   .
    have pE:aC x=true:=by simpa using QA
    refine AT.takes (fuel:=12) hT [9,10,11] kr kr rfl (.split 28 rfl (fun QB=> ?_) (fun QB=> ?_))
    .
     have GU:0<i:=by have:=of_decide_eq_true QB;omega
     obtain⟨p,hp⟩:=nth (l:=n.cells) (i:=i-1) (by omega)
     refine AT.takes (fuel:=8) hT [12,14,15,19] kr kr rfl (.take (fuel:=7) hT 13 rfl rfl kr kr kr rfl (.load rfl (Ld.slc hT rfl hz rfl)) rfl ?_)
     refine AT.take (fuel:=6) hT 20 rfl rfl kr kr kr rfl (.load rfl (Ld.one hT rfl hz rfl)) rfl ?_
     refine AT.eI 32 rfl (v:= .int .i64 ((i-1:Nat):Int)) (int_eq (by rw[wrap_i64 (by omega) (by omega)];omega)) (.index (fuel:=5) hT 16 rfl kr kr kr rfl rfl rfl rfl hc.there.there (by omega) (by rw[Int.toNat_natCast];exact hp) rfl (fun OJ Ae=> ?_))
     obtain⟨T_,Ua,rfl,IJ⟩:=Ae.at (P:=Tryz.prog)
     refine AT.takes (fuel:=4) hT [17] kr kr rfl (.take (fuel:=3) hT 18 rfl rfl kr kr kr rfl (.load rfl (IJ hT rfl rfl)) rfl (.takes (fuel:=0) hT [21,22,23] kr kr rfl (.done kr sl (.seq (.cond rfl (fun Jc=> ?_) (fun Jc=> ?_))))))
     .
      refine TT.seq (.region (.U hT 1 rfl (.nil (.seq (.ret (.of (rs:=[.tmp 2]) [_] hs rfl (.tmp rfl .nil) sl ?_))))))
      try dsimp only[one]
      refine⟨congrArg Value.bool (decide_eq_false fun hm=> ?_).symm,rfl⟩
      have h9:=(sg hm hx).2.2 GU p hp
      have Jc:(!cC p.key x.key)=true:=Jc
      rw[h9]at Jc;cases Jc
     .
      refine TT.skip (.blk (.seq (.region (.U hT 2 rfl (.nil (.loop (i+1) ?_ ?_ (aa.cons rfl (aa.cons rfl (aa.cons rfl (aa.aM rfl (by(try dsimp only);exact(int_eq (by rw[wrap_i64 (by omega) (by omega)];omega))) (aa.nil _))))) sl))))))
      . refine⟨by omega,fun _=>nR,?_,(fL hx).2 ⟨xo,fun _ q hq=> ?_⟩⟩
        . rw[take_succ hx]
          intro c kY
          rcases List.mem_append.1 kY with kY|kY
          . exact zx c kY
          . rw[List.mem_singleton]at kY;subst kY;exact pE
        . rw[hp]at hq;cases hq
          have Jc:(!cC p.key x.key)=false:=Jc
          simpa using Jc
      . omega
    .
     have GU:i=0:=by have:=of_decide_eq_false QB;omega
     refine AT.takes (fuel:=0) hT [12,13,14,15,16,17,18,19,20,21,22,23] kr kr rfl (.done kr sl (.seq (.cond_false rfl (.skip (.blk (.seq (.region (.U hT 2 rfl (.nil (.loop (i+1) ?_ ?_ (aa.cons rfl (aa.cons rfl (aa.cons rfl (aa.aM rfl (by(try dsimp only);exact(int_eq (by rw[wrap_i64 (by omega) (by omega)];omega))) (aa.nil _))))) sl))))))))))
     . refine⟨by omega,fun _=>nR,?_,(fL hx).2 ⟨xo,fun h0=>by omega⟩⟩
       rw[take_succ hx]
       intro c kY
       rcases List.mem_append.1 kY with kY|kY
       . exact zx c kY
       . rw[List.mem_singleton]at kY;subst kY;exact pE
     . omega
 .
  have gM:=of_decide_eq_false gM
  obtain rfl:i=n.cells.length:=by omega
  rw[List.take_length]at zx xo
  refine TT.exit (.seq (.loop (.here (.seq (.seq (.seq (.region (.U hT 1 rfl (.load rfl rfl (Ld.one hT rfl hz rfl) rfl ?_)))))))))
  refine OT.nil (.seq (.cond rfl (fun kZ=> ?_) (fun kZ=> ?_)))
  .
   refine TT.seq (.region (.U hT 1 rfl (.load rfl rfl (Ld.slc hT rfl hz rfl) rfl ?_)))
   refine OT.U hT 3 rfl (.split 48 rfl (fun QC=> ?_) (fun QC=> ?_))
   .
    have MP:n.keys.length=0:=by simpa using QC
    refine OT.U hT 1 rfl (.load rfl rfl (Ld.slc hT rfl hz rfl) rfl ?_)
    refine OT.U hT 4 rfl (.nil (.seq (.ret (.of (rs:=[.tmp 2]) [_] hs rfl (.tmp rfl .nil) sl ?_))))
    try dsimp only[one]
    refine⟨congrArg Value.bool ?_,rfl⟩
    rw[Bool.eq_iff_iff,beq_iff_eq,decide_eq_true_eq,cj kZ]
    constructor
    . intro h;exact⟨List.length_eq_zero_iff.1 MP,List.length_eq_zero_iff.1 (by omega),zx,xo⟩
    . intro h;rw[h.2.1];rfl
   .
    have MP:n.keys.length≠0:=by simpa using QC
    refine OT.U hT 6 rfl (.nil (.seq (.ret (.of (rs:=[.tmp 2]) [_] hs rfl (.tmp rfl .nil) sl ?_))))
    try dsimp only[one]
    refine⟨congrArg Value.bool (decide_eq_false fun hm=> ?_).symm,rfl⟩
    exact MP (by rw[((cj kZ).1 hm).1];rfl)
  .
   have hce:n.cells=[]:=by
    cases e:n.cells with
    |nil=>rfl
    |cons a l=>have:=hlf (by rw[e];simp);rw[kZ]at this;cases this
   refine TT.skip (.seq (.seq (.seq (.region (.U hT 1 rfl (.load rfl rfl (Ld.slc hT rfl hz rfl) rfl ?_))))))
   refine OT.U hT 2 rfl (.nil (.seq (.block (.loop (ι:=Nat) (fun j=>(j)<=n.keys.length/\(∀c∈n.keys.take (j),bP c=true)/\rising ((n.keys.take (j)).map id)) (fun j=>n.keys.length-(j)) (fun j=>[(1,.pointer (some ⟨b_1,0,none⟩)),(55,.slice ak n.keys.length ck),(56,.int .i64 (n.keys.length:Nat)),(57,.int .i64 ((j):Nat))]) (fun j=>[(b_1,blk [.bool n.leaf,.slice ac n.cells.length cc,.slice ak n.keys.length ck,.slice ai n.kids.length ci] 159 (0,0))]::hs) (0) ?_ (aa.cons rfl (aa.cons rfl (aa.cons rfl (aa.cons rfl (aa.nil _))))) sl ?_))))
   . exact⟨by omega,by simp,by simp[rising]⟩
   rintro i ⟨hin,hmk,qX⟩
   show TT _ _ _ [(1,.pointer (some ⟨b_1,0,none⟩)),(55,.slice ak n.keys.length ck),(56,.int .i64 (n.keys.length:Nat)),(57,.int .i64 (i:Nat))] ([(b_1,blk [.bool n.leaf,.slice ac n.cells.length cc,.slice ak n.keys.length ck,.slice ai n.kids.length ci] 159 (0,0))]::hs)
   refine TT.seq (.region (.U hT 1 rfl (.nil (.seq (.seq (.cond rfl (fun Eh=> ?_) (fun Eh=> ?_)))))))
   .
    have Eh:=of_decide_eq_true Eh
    obtain⟨x,hx⟩:=nth (l:=n.keys) (i:=i) (by omega)
    refine TT.skip (.seq (.seq (.block (.seq (.region (.U hT 1 rfl (.index hT rfl rfl rfl rfl hk.there (by omega) (by rw[Int.toNat_natCast];exact hx) rfl (fun OK Af=> ?_))))))))
    refine OT.load rfl rfl (Af.bL hT rfl rfl) rfl (.U hT 2 rfl (.nil (.seq (.seq (.region (.U hT 1 rfl (.call Tryz.call51 rfl rfl rfl rfl (Ac) ?_)))))))
    rintro WE Ub ⟨rfl,rfl⟩
    refine OT.U hT 2 rfl (.split 65 rfl (fun QD=> ?_) (fun QD=> ?_))
    .
     have hm0:bP x=false:=by simpa using QD
     refine OT.U hT 13 rfl (.nil (.seq (.cond_true rfl (.seq (.region (.U hT 1 rfl (.nil (.seq (.ret (.of (rs:=[.tmp 2]) [_] hs rfl (.tmp rfl .nil) sl ?_))))))))))
     try dsimp only[one]
     refine⟨congrArg Value.bool (decide_eq_false fun hm=> ?_).symm,rfl⟩
     have:=(B6 hm kZ hx).1;rw[hm0]at this;cases this
    .
     have pE:bP x=true:=by simpa using QD
     refine OT.U hT 3 rfl (.split 68 rfl (fun QE=> ?_) (fun QE=> ?_))
     .
      have GU:0<i:=by have:=of_decide_eq_true QE;omega
      obtain⟨p,hp⟩:=nth (l:=n.keys) (i:=i-1) (by omega)
      refine OT.U hT 1 rfl (.load rfl rfl (Ld.slc hT rfl hz rfl) rfl ?_)
      refine OT.U hT 2 rfl (.eI 72 rfl (v:= .int .i64 ((i-1:Nat):Int)) (int_eq (by rw[wrap_i64 (by omega) (by omega)];omega)) (.index hT rfl rfl rfl rfl hk.there (by omega) (by rw[Int.toNat_natCast];exact hp) rfl (fun Uc LS=> ?_)))
      refine OT.load rfl rfl (LS.bL hT rfl rfl) rfl (.U hT 4 rfl (.nil (.seq (.cond rfl (fun Jd=> ?_) (fun Jd=> ?_)))))
      .
       refine TT.seq (.region (.U hT 1 rfl (.nil (.seq (.ret (.of (rs:=[.tmp 2]) [_] hs rfl (.tmp rfl .nil) sl ?_))))))
       try dsimp only[one]
       refine⟨congrArg Value.bool (decide_eq_false fun hm=> ?_).symm,rfl⟩
       have h9:=(B6 hm kZ hx).2 GU p hp
       have Jd:(!cC p x)=true:=Jd
       rw[h9]at Jd;cases Jd
      .
       refine TT.skip (.blk (.seq (.region (.U hT 2 rfl (.nil (.loop (i+1) ?_ ?_ (aa.cons rfl (aa.cons rfl (aa.cons rfl (aa.aM rfl (by(try dsimp only);exact(int_eq (by rw[wrap_i64 (by omega) (by omega)];omega))) (aa.nil _))))) sl))))))
       . refine⟨by omega,?_,(fL hx).2 ⟨qX,fun _ q hq=> ?_⟩⟩
         . rw[take_succ hx]
           intro c kY
           rcases List.mem_append.1 kY with kY|kY
           . exact hmk c kY
           . rw[List.mem_singleton]at kY;subst kY;exact pE
         . rw[hp]at hq;cases hq
           have Jd:(!cC p x)=false:=Jd
           simpa using Jd
       . omega
     .
      have GU:i=0:=by have:=of_decide_eq_false QE;omega
      refine OT.U hT 10 rfl (.nil (.seq (.cond_false rfl (.skip (.blk (.seq (.region (.U hT 2 rfl (.nil (.loop (i+1) ?_ ?_ (aa.cons rfl (aa.cons rfl (aa.cons rfl (aa.aM rfl (by(try dsimp only);exact(int_eq (by rw[wrap_i64 (by omega) (by omega)];omega))) (aa.nil _))))) sl))))))))))
      . refine⟨by omega,?_,(fL hx).2 ⟨qX,fun h0=>by omega⟩⟩
        rw[take_succ hx]
        intro c kY
        rcases List.mem_append.1 kY with kY|kY
        . exact hmk c kY
        . rw[List.mem_singleton]at kY;subst kY;exact pE
      . omega
   .
    have Eh:=of_decide_eq_false Eh
    obtain rfl:i=n.keys.length:=by omega
    rw[List.take_length]at hmk qX
    rw[List.map_id]at qX
    refine TT.exit (.seq (.loop (.here (.seq (.seq (.seq (.region (.U hT 1 rfl (.load rfl rfl (Ld.slc hT rfl hz rfl) rfl ?_)))))))))
    refine OT.U hT 2 rfl (.nil (.seq (.block (.loop (ι:=Nat) (fun j=>(j)<=n.kids.length/\∀c∈n.kids.take (j),2<=c/\c<32) (fun j=>n.kids.length-(j)) (fun j=>[(1,.pointer (some ⟨b_1,0,none⟩)),(81,.slice ai n.kids.length ci),(82,.int .i64 (n.kids.length:Nat)),(83,.int .i64 ((j):Nat))]) (fun j=>[(b_1,blk [.bool n.leaf,.slice ac n.cells.length cc,.slice ak n.keys.length ck,.slice ai n.kids.length ci] 159 (0,0))]::hs) (0) ?_ (aa.cons rfl (aa.cons rfl (aa.cons rfl (aa.cons rfl (aa.nil _))))) sl ?_))))
    . exact⟨by omega,by simp⟩
    rintro i ⟨hin,Mt⟩
    show TT _ _ _ [(1,.pointer (some ⟨b_1,0,none⟩)),(81,.slice ai n.kids.length ci),(82,.int .i64 (n.kids.length:Nat)),(83,.int .i64 (i:Nat))] ([(b_1,blk [.bool n.leaf,.slice ac n.cells.length cc,.slice ak n.keys.length ck,.slice ai n.kids.length ci] 159 (0,0))]::hs)
    refine TT.seq (.region (.U hT 1 rfl (.nil (.seq (.seq (.cond rfl (fun MZ=> ?_) (fun MZ=> ?_)))))))
    .
     have MZ:=of_decide_eq_true MZ
     obtain⟨x,hx⟩:=nth (l:=n.kids) (i:=i) (by omega)
     refine TT.skip (.seq (.seq (.block (.seq (.region (.index hT rfl rfl rfl rfl hi.there (by omega) (by rw[Int.toNat_natCast];exact hx) rfl (fun Ud LU=> ?_)))))))
     refine OT.load rfl rfl (LU.bL hT rfl rfl) rfl (.U hT 1 rfl (.nil (.seq (.seq (.region (.U hT 3 rfl (.split 89 rfl (fun QF=> ?_) (fun QF=> ?_))))))))
     .
      have P7:x<2:=of_decide_eq_true QF
      refine OT.U hT 3 rfl (.nil (.seq (.cond_true rfl (.seq (.region (.U hT 1 rfl (.nil (.seq (.ret (.of (rs:=[.tmp 2]) [_] hs rfl (.tmp rfl .nil) sl ?_))))))))))
      try dsimp only[one]
      refine⟨congrArg Value.bool (decide_eq_false fun hm=> ?_).symm,rfl⟩
      have:=((aX kZ).1 hm).2.2.2.1 x (List.mem_of_getElem? hx);omega
     .
      have P7:¬x<2:=of_decide_eq_false QF
      refine OT.U hT 3 rfl (.nil (.seq (.cond rfl (fun QG=> ?_) (fun QG=> ?_))))
      .
       have PG:x>=32:=of_decide_eq_true QG
       refine TT.seq (.region (.U hT 1 rfl (.nil (.seq (.ret (.of (rs:=[.tmp 2]) [_] hs rfl (.tmp rfl .nil) sl ?_))))))
       try dsimp only[one]
       refine⟨congrArg Value.bool (decide_eq_false fun hm=> ?_).symm,rfl⟩
       have:=((aX kZ).1 hm).2.2.2.1 x (List.mem_of_getElem? hx);omega
      .
       have PG:¬x>=32:=of_decide_eq_false QG
       refine TT.skip (.blk (.seq (.region (.U hT 2 rfl (.nil (.loop (i+1) ?_ ?_ (aa.cons rfl (aa.cons rfl (aa.cons rfl (aa.aM rfl (by(try dsimp only);exact(int_eq (by rw[wrap_i64 (by omega) (by omega)];omega))) (aa.nil _))))) sl))))))
       . refine⟨by omega,?_⟩
         rw[take_succ hx]
         intro c kY
         rcases List.mem_append.1 kY with kY|kY
         . exact Mt c kY
         . rw[List.mem_singleton]at kY;subst kY;omega
       . omega
    .
     have MZ:=of_decide_eq_false MZ
     obtain rfl:i=n.kids.length:=by omega
     rw[List.take_length]at Mt
     refine TT.exit (.seq (.loop (.here (.seq (.seq (.region (.U hT 1 rfl (.load rfl rfl (Ld.slc hT rfl hz rfl) rfl ?_))))))))
     refine OT.U hT 3 rfl (.split 98 rfl (fun CX=> ?_) (fun CX=> ?_))
     .
      have qW:(n.kids.length:Int)>=1:=of_decide_eq_true CX
      refine OT.U hT 1 rfl (.load rfl rfl (Ld.slc hT rfl hz rfl) rfl ?_)
      refine OT.U hT 4 rfl (.split 104 rfl (fun KM=> ?_) (fun KM=> ?_))
      .
       have hk2:(n.kids.length:Int)<=32:=of_decide_eq_true KM
       refine OT.U hT 1 rfl (.load rfl rfl (Ld.slc hT rfl hz rfl) rfl ?_)
       refine OT.U hT 2 rfl (.load rfl rfl (Ld.slc hT rfl hz rfl) rfl ?_)
       refine OT.U hT 5 rfl (.nil (.seq (.ret (.of (rs:=[.tmp 2]) [_] hs rfl (.tmp rfl .nil) sl ?_))))
       try dsimp only[one]
       refine⟨congrArg Value.bool ?_,rfl⟩
       rw[wrap_i64 (by omega) (by omega),Bool.eq_iff_iff,beq_iff_eq,decide_eq_true_eq,aX kZ]
       constructor
       . intro h;exact⟨hce,hmk,qX,Mt,by omega,by omega,by omega⟩
       . intro h;omega
      .
       have hk2:¬(n.kids.length:Int)<=32:=of_decide_eq_false KM
       refine OT.U hT 10 rfl (.nil (.seq (.ret (.of (rs:=[.tmp 2]) [_] hs rfl (.tmp rfl .nil) sl ?_))))
       try dsimp only[one]
       refine⟨congrArg Value.bool (decide_eq_false fun hm=> ?_).symm,rfl⟩
       have:=((aX kZ).1 hm).2.2.2.2.2.1;omega
     .
      have qW:¬(n.kids.length:Int)>=1:=of_decide_eq_false CX
      refine OT.U hT 16 rfl (.nil (.seq (.ret (.of (rs:=[.tmp 2]) [_] hs rfl (.tmp rfl .nil) sl ?_))))
      try dsimp only[one]
      refine⟨congrArg Value.bool (decide_eq_false fun hm=> ?_).symm,rfl⟩
      have:=((aX kZ).1 hm).2.2.2.2.1;omega
end Go.Proofs.YtihpkgmfkbkffaaGreat.Sx
end
section
namespace Go.Proofs.YtihpkgmfkbkffaaGreat.Sx
open Go Go.Sx Go.Pl
variable[au]
set_option maxHeartbeats 4000000 in
set_option maxRecDepth 100000 in
theorem yD{cs:List Value}{n:Nd}{hs:List Chunk}(h:gf hs cs n)(hm:dh n)(hlc:n.cells.length<=1000)(hf:∀c∈n.cells,c.val.f<2^64/\c.new.f<2^64):aA Tryz.prog 173 [.agg ⟨cs⟩] hs (fun v' hs'=>∃K,hs'=K::hs/\Own Go.Sx.aB 1 5 v' (cm n) K):=by
 refine aA.enter 58 Tryz.func173 rfl Tryz.ntmps173 rfl ?_
 obtain⟨vc,vk,vi,rfl,hc,hk,hi⟩:=h.is
 obtain⟨ac,cc,e1⟩:=hc.len
 obtain⟨ak,ck,e2⟩:=hk.len
 obtain⟨ai,ci,e3⟩:=hi.len
 subst e1 e2 e3
 refine TT.seq (.region (.box rfl rfl rfl (fun b_1=> ?_)))
 refine OT.U hT 1 rfl (.nil (.seq (.seq (.seq (.region (.U hT 1 rfl (.load rfl rfl (Ld.one hT rfl hz rfl) rfl ?_)))))))
 refine OT.nil (.seq (.cond rfl (fun fu=> ?_) (fun fu=> ?_)))
 .
  obtain⟨_,_,zx,_⟩:=(cj fu).1 hm
  have tn:=dY (n:=n.cells.length) (by omega) (by omega)
  refine TT.seq (.region ?_)
  refine OT.buildSlice (enc:=Go.Sx.aB) (xs:=[(1:UInt8)]) (gQ:=[.const (.int .u8 (1))]) eW rfl rfl rfl rfl rfl (by simp[Value.cells]) (fun _ _=>rfl) rfl (by decide) rfl (fun xd Hw BE=> ?_)
  refine OT.U hT 1 rfl (.load rfl rfl (Ld.slc hT rfl hz rfl) rfl ?_)
  refine OT.U hT 1 rfl (.call Tryz.call76 rfl rfl rfl rfl (aA.pull pl (ia BE (by omega) (by omega) (by decide))) ?_)
  rintro CJ BF ⟨K0,rfl,QH⟩
  refine OT.U hT 1 rfl (.nil (.seq (.seq (.seq (.region (.U hT 1 rfl (.load rfl rfl (Ld.slc hT rfl hz rfl) rfl ?_)))))))
  refine OT.U hT 2 rfl (.nil (.seq (.block (.loop (ι:=Nat×Value×Chunk) (fun j=>(j.1)<=n.cells.length/\Own Go.Sx.aB 1 5 (j.2.1) ((1::put n.cells.length)++(n.cells.take (j.1)).flatMap ax) (j.2.2)) (fun j=>n.cells.length-(j.1)) (fun j=>[(1,.pointer (some ⟨b_1,0,none⟩)),(3,(j.2.1)),(19,.slice ac n.cells.length cc),(20,.int .i64 (n.cells.length:Nat)),(21,.int .i64 ((j.1):Nat))]) (fun j=>(j.2.2)::[(b_1,blk [.bool n.leaf,.slice ac n.cells.length cc,.slice ak n.keys.length ck,.slice ai n.kids.length ci] 159 (0,0))]::hs) (0,_,K0) ?_ (aa.cons rfl (aa.cons rfl (aa.cons rfl (aa.cons rfl (aa.cons rfl (aa.nil _)))))) sl ?_))))
  . dsimp only
    exact⟨by omega,by rw[List.take_zero];simpa using QH⟩
  rintro⟨i,w,K⟩ hI
  dsimp only at hI
  obtain⟨hin,ho⟩:=hI
  show TT _ _ _ [(1,.pointer (some ⟨b_1,0,none⟩)),(3,w),(19,.slice ac n.cells.length cc),(20,.int .i64 (n.cells.length:Nat)),(21,.int .i64 (i:Nat))] (K::[(b_1,blk [.bool n.leaf,.slice ac n.cells.length cc,.slice ak n.keys.length ck,.slice ai n.kids.length ci] 159 (0,0))]::hs)
  have hfl:((n.cells.take i).flatMap ax).length<=67*i:=by
   have:=oH (f:=ax) (b:=67) (l:=n.cells.take i) fun x hx=>gz (zx x (List.mem_of_mem_take hx))
   rw[List.length_take]at this;omega
  refine TT.seq (.region (.U hT 1 rfl (.nil (.seq (.seq (.cond rfl (fun jy=> ?_) (fun jy=> ?_)))))))
  .
   have jy:=of_decide_eq_true jy
   obtain⟨x,hx⟩:=nth (l:=n.cells) (i:=i) (by omega)
   have hmem:=List.mem_of_getElem? hx
   have hok:=ou (zx x hmem)
   obtain⟨Qz,D_⟩:=hf x hmem
   refine TT.skip (.seq (.seq (.block (.seq (.region (.index hT rfl rfl rfl rfl hc.there.there (by omega) (by rw[Int.toNat_natCast];exact hx) rfl (fun Ue LV=> ?_)))))))
   refine OT.load rfl rfl (LV.cO hT rfl) rfl (.alloc Tryz.zeroValue113 rfl rfl (fun g_=> ?_))
   refine OT.ag hT rfl rfl rfl rfl pl (by rfl) rfl (vo x) (.inl (Nat.le_refl _)) ?_
   refine OT.nil (.seq (.region (.U hT 1 rfl (.load rfl rfl (Ld.af hT rfl hz rfl) rfl ?_))))
   refine OT.call Tryz.call199 rfl rfl rfl rfl (aA.pull pl (LQ (x:=x) ho ⟨by have:=hok.k1;omega,by have:=hok.k1;omega⟩ ⟨by have:=hok.k2;omega,by have:=hok.k2;omega⟩ ⟨by have:=hok.cg;omega,by have:=hok.cg;omega⟩ Qz D_ (Nat.le_trans hok.key (by decide)) (Nat.le_trans hok.s1 (by decide)) (Nat.le_trans hok.s2 (by decide)) (by rw[List.length_append,List.length_cons];omega))) ?_
   rintro EC BG ⟨K2,rfl,pI⟩
   refine OT.U hT 1 rfl (.nil (.blk (.seq (.region (.U hT 2 rfl (.nil (.loop (i+1,_,K2) ?_ ?_ (aa.cons rfl (aa.cons rfl (aa.cons rfl (aa.cons rfl (aa.aM rfl (by(try dsimp only);exact(int_eq (by rw[wrap_i64 (by omega) (by omega)];omega))) (aa.nil _)))))) sl)))))))
   . dsimp only
     exact⟨by omega,by rw[mq hx,<-List.append_assoc];exact pI⟩
   . dsimp only
     omega
  .
   have jy:=of_decide_eq_false jy
   obtain rfl:i=n.cells.length:=by omega
   rw[List.take_length]at ho
   refine TT.exit (.seq (.loop (.here (.seq (.seq (.region (.U hT 2 rfl (.nil (.seq (.ret (.of (rs:=[.tmp 2]) [_] (K::hs) rfl (.tmp rfl .nil) sl ?_)))))))))))
   try dsimp only[one]
   exact⟨K,rfl,by unfold cm;rw[if_pos fu];exact ho⟩
 .
  obtain⟨_,hmk,_,Mt,_,WG,hkk⟩:=(aX fu).1 hm
  have tn:=dY (n:=n.kids.length) (by omega) (by omega)
  refine TT.skip (.seq (.seq (.region ?_)))
  refine OT.buildSlice (enc:=Go.Sx.aB) (xs:=[(2:UInt8)]) (gQ:=[.const (.int .u8 (2))]) eW rfl rfl rfl rfl rfl (by simp[Value.cells]) (fun _ _=>rfl) rfl (by decide) rfl (fun vw NH BH=> ?_)
  refine OT.U hT 1 rfl (.load rfl rfl (Ld.slc hT rfl hz rfl) rfl ?_)
  refine OT.U hT 1 rfl (.call Tryz.call76 rfl rfl rfl rfl (aA.pull pl (ia BH (by omega) (by omega) (by decide))) ?_)
  rintro Hv BA ⟨K0,rfl,QH⟩
  refine OT.U hT 1 rfl (.nil (.seq (.seq (.seq (.region (.U hT 1 rfl (.load rfl rfl (Ld.slc hT rfl hz rfl) rfl ?_)))))))
  refine OT.U hT 2 rfl (.nil (.seq (.block (.loop (ι:=Nat×Value×Chunk) (fun j=>(j.1)<=n.kids.length/\Own Go.Sx.aB 1 5 (j.2.1) ((2::put n.kids.length)++(n.kids.take (j.1)).flatMap put) (j.2.2)) (fun j=>n.kids.length-(j.1)) (fun j=>[(1,.pointer (some ⟨b_1,0,none⟩)),(6,(j.2.1)),(36,.slice ai n.kids.length ci),(37,.int .i64 (n.kids.length:Nat)),(38,.int .i64 ((j.1):Nat))]) (fun j=>(j.2.2)::[(b_1,blk [.bool n.leaf,.slice ac n.cells.length cc,.slice ak n.keys.length ck,.slice ai n.kids.length ci] 159 (0,0))]::hs) (0,_,K0) ?_ (aa.cons rfl (aa.cons rfl (aa.cons rfl (aa.cons rfl (aa.cons rfl (aa.nil _)))))) sl ?_))))
  . dsimp only
    exact⟨by omega,by rw[List.take_zero];simpa using QH⟩
  rintro⟨i,w,K⟩ hI
  dsimp only at hI
  obtain⟨hin,ho⟩:=hI
  show TT _ _ _ [(1,.pointer (some ⟨b_1,0,none⟩)),(6,w),(36,.slice ai n.kids.length ci),(37,.int .i64 (n.kids.length:Nat)),(38,.int .i64 (i:Nat))] (K::[(b_1,blk [.bool n.leaf,.slice ac n.cells.length cc,.slice ak n.keys.length ck,.slice ai n.kids.length ci] 159 (0,0))]::hs)
  have hfl:((n.kids.take i).flatMap put).length<=10*i:=by
   have:=oH (f:=put) (b:=10) (l:=n.kids.take i) fun x hx=>by have:=Mt x (List.mem_of_mem_take hx);exact dY (by omega) (by omega)
   rw[List.length_take]at this;omega
  refine TT.seq (.region (.U hT 1 rfl (.nil (.seq (.seq (.cond rfl (fun tF=> ?_) (fun tF=> ?_)))))))
  .
   have tF:=of_decide_eq_true tF
   obtain⟨x,hx⟩:=nth (l:=n.kids) (i:=i) (by omega)
   have mM:=Mt x (List.mem_of_getElem? hx)
   refine TT.skip (.seq (.seq (.block (.seq (.region (.index hT rfl rfl rfl rfl hi.there.there (by omega) (by rw[Int.toNat_natCast];exact hx) rfl (fun OL Ag=> ?_)))))))
   refine OT.load rfl rfl (Ag.bL hT rfl rfl) rfl (.U hT 1 rfl (.nil (.seq (.region (.U hT 2 rfl (.call Tryz.call76 rfl rfl rfl rfl (ia ho (by omega) (by omega) (by rw[List.length_append,List.length_cons];omega)) ?_))))))
   rintro CN uv ⟨K2,rfl,pI⟩
   refine OT.U hT 1 rfl (.nil (.blk (.seq (.region (.U hT 2 rfl (.nil (.loop (i+1,_,K2) ?_ ?_ (aa.cons rfl (aa.cons rfl (aa.cons rfl (aa.cons rfl (aa.aM rfl (by(try dsimp only);exact(int_eq (by rw[wrap_i64 (by omega) (by omega)];omega))) (aa.nil _)))))) sl)))))))
   . dsimp only
     exact⟨by omega,by rw[mq hx,<-List.append_assoc];exact pI⟩
   . dsimp only
     omega
  .
   have tF:=of_decide_eq_false tF
   obtain rfl:i=n.kids.length:=by omega
   rw[List.take_length]at ho hfl
   refine TT.exit (.seq (.loop (.here (.seq (.seq (.seq (.region (.U hT 1 rfl (.load rfl rfl (Ld.slc hT rfl hz rfl) rfl ?_)))))))))
   refine OT.U hT 2 rfl (.nil (.seq (.block (.loop (ι:=Nat×Value×Chunk) (fun j=>(j.1)<=n.keys.length/\Own Go.Sx.aB 1 5 (j.2.1) ((2::put n.kids.length)++n.kids.flatMap put++(n.keys.take (j.1)).flatMap aI) (j.2.2)) (fun j=>n.keys.length-(j.1)) (fun j=>[(1,.pointer (some ⟨b_1,0,none⟩)),(6,(j.2.1)),(47,.slice ak n.keys.length ck),(48,.int .i64 (n.keys.length:Nat)),(49,.int .i64 ((j.1):Nat))]) (fun j=>(j.2.2)::[(b_1,blk [.bool n.leaf,.slice ac n.cells.length cc,.slice ak n.keys.length ck,.slice ai n.kids.length ci] 159 (0,0))]::hs) (0,w,K) ?_ (aa.cons rfl (aa.cons rfl (aa.cons rfl (aa.cons rfl (aa.cons rfl (aa.nil _)))))) sl ?_))))
   . dsimp only
     exact⟨by omega,by rw[List.take_zero];simpa using ho⟩
   rintro⟨i,w,K⟩ hI
   dsimp only at hI
   obtain⟨hin,ho⟩:=hI
   show TT _ _ _ [(1,.pointer (some ⟨b_1,0,none⟩)),(6,w),(47,.slice ak n.keys.length ck),(48,.int .i64 (n.keys.length:Nat)),(49,.int .i64 (i:Nat))] (K::[(b_1,blk [.bool n.leaf,.slice ac n.cells.length cc,.slice ak n.keys.length ck,.slice ai n.kids.length ci] 159 (0,0))]::hs)
   have Vt:((n.keys.take i).flatMap aI).length<=27*i:=by
    have:=oH (f:=aI) (b:=27) (l:=n.keys.take i) fun x hx=>by
     have NI:=hmk x (List.mem_of_mem_take hx)
     unfold bP at NI
     rw[Bool.and_eq_true,decide_eq_true_eq,decide_eq_true_eq]at NI
     rw[eH]
     have:=dY (n:=x.size) (by omega) (by omega)
     omega
    rw[List.length_take]at this;omega
   refine TT.seq (.region (.U hT 1 rfl (.nil (.seq (.seq (.cond rfl (fun qY=> ?_) (fun qY=> ?_)))))))
   .
    have qY:=of_decide_eq_true qY
    obtain⟨x,hx⟩:=nth (l:=n.keys) (i:=i) (by omega)
    have Je:=hmk x (List.mem_of_getElem? hx)
    unfold bP at Je
    rw[Bool.and_eq_true,decide_eq_true_eq,decide_eq_true_eq]at Je
    refine TT.skip (.seq (.seq (.block (.seq (.region (.index hT rfl rfl rfl rfl hk.there.there (by omega) (by rw[Int.toNat_natCast];exact hx) rfl (fun Uf LW=> ?_)))))))
    refine OT.load rfl rfl (LW.bL hT rfl rfl) rfl (.U hT 1 rfl (.nil (.seq (.region (.U hT 2 rfl (.call Tryz.call77 rfl rfl rfl rfl (ji ho (Nat.le_trans Je.2 (by decide)) (by rw[List.length_append,List.length_append,List.length_cons];omega)) ?_))))))
    rintro WH Ug ⟨K2,rfl,pI⟩
    refine OT.U hT 1 rfl (.nil (.blk (.seq (.region (.U hT 2 rfl (.nil (.loop (i+1,_,K2) ?_ ?_ (aa.cons rfl (aa.cons rfl (aa.cons rfl (aa.cons rfl (aa.aM rfl (by(try dsimp only);exact(int_eq (by rw[wrap_i64 (by omega) (by omega)];omega))) (aa.nil _)))))) sl)))))))
    . dsimp only
      exact⟨by omega,by rw[mq hx,<-List.append_assoc];exact pI⟩
    . dsimp only
      omega
   .
    have qY:=of_decide_eq_false qY
    obtain rfl:i=n.keys.length:=by omega
    rw[List.take_length]at ho
    refine TT.exit (.seq (.loop (.here (.seq (.seq (.region (.U hT 2 rfl (.nil (.seq (.ret (.of (rs:=[.tmp 2]) [_] (K::hs) rfl (.tmp rfl .nil) sl ?_)))))))))))
    try dsimp only[one]
    exact⟨K,rfl,by unfold cm;rw[if_neg (by rw[fu];simp)];exact ho⟩
omit [au] in
theorem IK{n:Nd}(h:¬dh n):bU n=([],1):=by unfold bU;rw[if_neg h]
omit [au] in
theorem Gq{n:Nd}(h:dh n)(h2:256<(cm n).length):bU n=([],4):=by unfold bU;rw[if_pos h,if_pos h2]
omit [au] in
theorem LX{n:Nd}(h:dh n)(h2:¬256<(cm n).length):bU n=(cm n++List.replicate (256-(cm n).length) 0,0):=by unfold bU;rw[if_pos h,if_neg h2]
set_option maxHeartbeats 1000000 in
set_option maxRecDepth 100000 in
theorem Cq{cs:List Value}{n:Nd}{hs:List Chunk}(h:gf hs cs n)(hlc:n.cells.length<=1000)(hlk:n.keys.length<=1000000)(xw:n.kids.length<=1000000)(hf:∀c∈n.cells,c.val.f<2^64/\c.new.f<2^64):aA Tryz.prog 178 [.agg ⟨cs⟩] hs (fun v' hs'=>∃K,hs'=K::hs/\v'= .int .i64 (rW n:Nat)):=by
 refine aA.enter 9 Tryz.func178 rfl Tryz.ntmps178 rfl ?_
 obtain⟨vc,vk,vi,rfl,hc,hk,hi⟩:=h.is
 obtain⟨ac,cc,e1⟩:=hc.len
 obtain⟨ak,ck,e2⟩:=hk.len
 obtain⟨ai,ci,e3⟩:=hi.len
 subst e1 e2 e3
 have h:gf hs [.bool n.leaf,.slice ac n.cells.length cc,.slice ak n.keys.length ck,.slice ai n.kids.length ci] n:=⟨_,_,_,rfl,hc,hk,hi⟩
 refine TT.seq (.region (.box rfl rfl rfl (fun b_1=> ?_)))
 refine OT.U hT 1 rfl (.nil (.seq (.seq (.seq (.region (.load rfl rfl (Ld.af hT rfl hz rfl) rfl ?_))))))
 refine OT.call Tryz.call138 rfl rfl rfl rfl (Ad (h.mono fun _ _=> .there) (by omega) hlk xw) ?_
 rintro Qw NC ⟨rfl,rfl⟩
 refine OT.U hT 1 rfl (.nil (.seq (.cond rfl (fun c5=> ?_) (fun c5=> ?_))))
 .
  have hm:¬dh n:=by simpa using c5
  refine TT.seq (.region (.U hT 1 rfl (.nil (.seq (.ret (.of (rs:=[.tmp 2]) [_] ([]::hs) rfl (.tmp rfl .nil) sl ?_))))))
  try dsimp only[one]
  exact⟨[],rfl,by unfold rW;rw[if_neg hm];rfl⟩
 .
  have hm:dh n:=by simpa using c5
  refine TT.skip (.seq (.seq (.region (.load rfl rfl (Ld.af hT rfl hz rfl) rfl ?_))))
  refine OT.call Tryz.call173 rfl rfl rfl rfl (yD (h.mono fun _ _=> .there) hm hlc hf) ?_
  rintro CV tD ⟨K,rfl,ho⟩
  obtain⟨a7,c7,VK⟩:=(ho.row (hs:=[])).len
  subst VK
  refine OT.U hT 2 rfl (.nil (.seq (.ret (.of (rs:=[.tmp 2]) [_] (K::hs) rfl (.tmp rfl .nil) sl ?_))))
  try dsimp only[one]
  exact⟨K,rfl,by unfold rW;rw[if_pos hm]⟩
set_option maxHeartbeats 1000000 in
set_option maxRecDepth 100000 in
theorem ql{cs:List Value}{n:Nd}{hs:List Chunk}(h:gf hs cs n)(hlc:n.cells.length<=1000)(hlk:n.keys.length<=1000000)(xw:n.kids.length<=1000000)(hf:∀c∈n.cells,c.val.f<2^64/\c.new.f<2^64):aA Tryz.prog 144 [.agg ⟨cs⟩] hs (fun v' hs'=>∃K w,hs'=K::hs/\v'= .tuple ⟨[w,.int .i64 (bU n).2]⟩/\Own Go.Sx.aB 1 5 w (bU n).1 K):=by
 refine aA.enter 18 Tryz.func144 rfl Tryz.ntmps144 rfl ?_
 obtain⟨vc,vk,vi,rfl,hc,hk,hi⟩:=h.is
 obtain⟨ac,cc,e1⟩:=hc.len
 obtain⟨ak,ck,e2⟩:=hk.len
 obtain⟨ai,ci,e3⟩:=hi.len
 subst e1 e2 e3
 have h:gf hs [.bool n.leaf,.slice ac n.cells.length cc,.slice ak n.keys.length ck,.slice ai n.kids.length ci] n:=⟨_,_,_,rfl,hc,hk,hi⟩
 refine TT.seq (.region (.box rfl rfl rfl (fun b_1=> ?_)))
 refine OT.U hT 2 rfl (.nil (.seq (.seq (.seq (.region (.load rfl rfl (Ld.af hT rfl hz rfl) rfl ?_))))))
 refine OT.call Tryz.call138 rfl rfl rfl rfl (Ad (h.mono fun _ _=> .there) (by omega) hlk xw) ?_
 rintro Ms zE ⟨rfl,rfl⟩
 refine OT.U hT 1 rfl (.nil (.seq (.cond rfl (fun c7=> ?_) (fun c7=> ?_))))
 .
  have hm:¬dh n:=by simpa using c7
  refine TT.seq (.region (.U hT 2 rfl (.nil (.seq (.ret (.of (rs:=[.tmp 2,.tmp 3]) [_,_] ([]::hs) rfl (.tmp rfl (.tmp rfl .nil)) sl ?_))))))
  try dsimp only[one]
  rw[IK hm]
  exact⟨[],_,rfl,rfl,Own.nil⟩
 .
  have hm:dh n:=by simpa using c7
  refine TT.skip (.seq (.seq (.region (.load rfl rfl (Ld.af hT rfl hz rfl) rfl ?_))))
  refine OT.call Tryz.call173 rfl rfl rfl rfl (yD (h.mono fun _ _=> .there) hm hlc hf) ?_
  rintro J3 zF ⟨K,rfl,ho⟩
  obtain⟨a9,c9,VL⟩:=(ho.row (hs:=[])).len
  subst VL
  refine OT.U hT 1 rfl (.nil (.seq (.seq (.seq (.region (.U hT 3 rfl (.nil (.seq (.cond rfl (fun fu=> ?_) (fun fu=> ?_))))))))))
  .
   have fu:=of_decide_eq_true fu
   refine TT.seq (.region (.U hT 2 rfl (.nil (.seq (.ret (.of (rs:=[.tmp 2,.tmp 3]) [_,_] ([]::hs) rfl (.tmp rfl (.tmp rfl .nil)) sl ?_))))))
   try dsimp only[one]
   rw[Gq hm (by omega)]
   exact⟨[],_,rfl,rfl,Own.nil⟩
  .
   have fu:=of_decide_eq_false fu
   refine TT.skip (.seq (.seq (.region (.U hT 4 rfl (.ic (z0:=(0:UInt8)) (m:=256-(cm n).length) Tryz.zeroValue5 rfl rfl rfl hT eW rfl rfl rfl (congrArg some (int_eq (by rw[wrap_i64 (by omega) (by omega)];omega))) pl ho (by omega) rfl (fun CJ KH EV=> ?_))))))
   refine OT.U hT 2 rfl (.nil (.seq (.ret (.of (rs:=[.tmp 2,.tmp 3]) [_,_] (KH::hs) rfl (.tmp rfl (.tmp rfl .nil)) sl ?_))))
   try dsimp only[one]
   rw[LX hm (by omega)]
   exact⟨_,_,rfl,rfl,EV⟩
end Go.Proofs.YtihpkgmfkbkffaaGreat.Sx
end
section
namespace Go.Proofs.YtihpkgmfkbkffaaGreat.Sx
open Go Go.Sx Go.Pl
variable[au]
set_option maxHeartbeats 1000000 in
set_option maxRecDepth 100000 in
theorem DM{s:ByteArray}{hs:List Chunk}:aA Tryz.prog 172 [.string s] hs (fun v' hs'=>v'= .bool false/\hs=hs'):=by
 refine aA.enter 6 Tryz.func172 rfl Tryz.ntmps172 rfl ?_
 refine TT.seq (.region (.U hT 1 rfl (.nil (.seq (.seq (.region (.U hT 4 rfl (.nil (.seq (.ret (.of (rs:=[.tmp 2]) [_] hs rfl (.tmp rfl .nil) sl ?_)))))))))))
 try dsimp only[one]
 refine⟨congrArg Value.bool ?_,rfl⟩
 simp
set_option maxHeartbeats 1000000 in
set_option maxRecDepth 100000 in
theorem A2{s:ByteArray}{hs:List Chunk}:aA Tryz.prog 198 [.string s] hs (fun v' hs'=>v'= .bool false/\hs=hs'):=by
 refine aA.enter 6 Tryz.func198 rfl Tryz.ntmps198 rfl ?_
 refine TT.seq (.region (.U hT 1 rfl (.nil (.seq (.seq (.region (.U hT 4 rfl (.nil (.seq (.ret (.of (rs:=[.tmp 2]) [_] hs rfl (.tmp rfl .nil) sl ?_)))))))))))
 try dsimp only[one]
 refine⟨congrArg Value.bool ?_,rfl⟩
 simp
set_option maxHeartbeats 1000000 in
set_option maxRecDepth 100000 in
theorem DN{a b:ByteArray}{hs:List Chunk}:aA Tryz.prog 171 [.string a,.string b] hs (fun v' hs'=>v'= .bool (cC a b)/\hs=hs'):=by
 refine aA.enter 17 Tryz.func171 rfl Tryz.ntmps171 rfl ?_
 refine TT.seq (.region (.U hT 1 rfl (.nil (.seq (.seq (.region (.U hT 1 rfl (.call Tryz.call198 rfl rfl rfl rfl (A2) ?_))))))))
 rintro Ms zE ⟨rfl,rfl⟩
 refine OT.U hT 1 rfl (.U hT 10 rfl (.nil (.seq (.ret (.of (rs:=[.tmp 4]) [_] hs rfl (.tmp rfl .nil) sl ?_)))))
 try dsimp only[one]
 refine⟨congrArg Value.bool ?_,rfl⟩
 rfl
set_option maxHeartbeats 1000000 in
set_option maxRecDepth 100000 in
theorem DO{v:Value}{l:List ByteArray}{k:ByteArray}{hs:List Chunk}(hr:Row Go.Sx.ij 1 hs v l)(hl:l.length<=1000000)(xo:rising l):aA Tryz.prog 139 [v,.string k] hs (fun v' hs'=>∃i:Nat,v'= .tuple ⟨[.int .i64 (i:Nat),.bool (decide (l[i]? =some k))]⟩/\pP l k i/\hs=hs'):=by
 refine aA.enter 54 Tryz.func139 rfl Tryz.ntmps139 rfl ?_
 obtain⟨a0,c0,hv⟩:=hr.len
 subst hv
 refine TT.seq (.region (.U hT 2 rfl (.nil (.seq (.seq (.region (.U hT 3 rfl (.nil (.seq (.seq (.region (.U hT 3 rfl (.nil (.seq (.seq (.block (.loop (ι:=Nat×Nat) (fun j=>(j.1)<=(j.2)/\(j.2)<=l.length/\(∀(z:Nat) (x:ByteArray),z<(j.1)->l[z]? =some x->cC x k=true)/\(∀(z:Nat) (x:ByteArray),(j.2)<=z->l[z]? =some x->cC x k=false)) (fun j=>(j.2)-(j.1)) (fun j=>[(0,.slice a0 l.length c0),(1,.string k),(6,.int .i64 (l.length:Nat)),(7,.int .i64 ((j.1):Nat)),(8,.int .i64 ((j.2):Nat))]) (fun j=>hs) (0,l.length) ?_ (aa.cons rfl (aa.cons rfl (aa.cons rfl (aa.cons rfl (aa.cons rfl (aa.nil _)))))) sl ?_)))))))))))))))))
 . dsimp only
   exact⟨by omega,by omega,fun j x h=>by omega,fun j x h hx=>by rw[List.getElem?_eq_none (by omega)]at hx;cases hx⟩
 rintro⟨p,q⟩ hI
 dsimp only at hI
 obtain⟨hpq,PI,hlo,hhi⟩:=hI
 show TT _ _ _ [(0,.slice a0 l.length c0),(1,.string k),(6,.int .i64 (l.length:Nat)),(7,.int .i64 (p:Nat)),(8,.int .i64 (q:Nat))] (hs)
 refine TT.seq (.seq (.region (.U hT 3 rfl (.nil (.seq (.cond rfl (fun p4=> ?_) (fun p4=> ?_)))))))
 .
  have p4:=of_decide_eq_true p4
  obtain⟨x,hx⟩:=nth (l:=l) (i:=(p+q)/2) (by omega)
  refine TT.skip (.seq (.block (.seq (.region (.U hT 7 rfl (.nil (.seq (.seq (.region (.U hT 2 rfl (.eI 9 rfl (v:= .int .i64 (((p+q)/2:Nat):Int)) (int_eq (half (by omega))) (.eI 23 rfl (v:= .int .i64 (((p+q)/2:Nat):Int)) (int_eq (half (by omega))) (.index hT rfl rfl rfl rfl hr (by omega) (by rw[Int.toNat_natCast];exact hx) rfl (fun JF r4=> ?_))))))))))))))
  refine OT.load rfl rfl (r4.bL hT rfl rfl) rfl (.U hT 1 rfl (.call Tryz.call171 rfl rfl rfl rfl (DN) ?_))
  rintro EC BG ⟨rfl,rfl⟩
  refine OT.nil (.seq (.cond rfl (fun nV=> ?_) (fun nV=> ?_)))
  .
   refine TT.region (.U hT 3 rfl (.nil (.blk (.loop ((p+q)/2+1,q) ?_ ?_ (aa.cons rfl (aa.cons rfl (aa.cons rfl (aa.aM rfl (by(try dsimp only);exact(int_eq (by rw[wrap_i64 (by omega) (by omega)];omega))) (aa.cons rfl (aa.nil _)))))) sl))))
   . dsimp only
     refine⟨by omega,PI,fun j y hj hy=> ?_,hhi⟩
     by_cases e:j=(p+q)/2
     . subst e;rw[hx]at hy;cases hy;exact nV
     . exact bD (jT xo (by omega) hy hx) nV
   . dsimp only
     omega
  .
   refine TT.region (.U hT 2 rfl (.nil (.blk (.loop (p,(p+q)/2) ?_ ?_ (aa.cons rfl (aa.cons rfl (aa.cons rfl (aa.cons rfl (aa.cons rfl (aa.nil _)))))) sl))))
   . dsimp only
     refine⟨by omega,by omega,hlo,fun j y hj hy=> ?_⟩
     by_cases e:j=(p+q)/2
     . subst e;rw[hx]at hy;cases hy;exact nV
     . cases hh:cC y k with
       |false=>rfl
       |true=>have:=bD (jT xo (by omega) hx hy) hh;rw[nV]at this;cases this
   . dsimp only
     omega
 .
  have p4:=of_decide_eq_false p4
  obtain rfl:p=q:=by omega
  refine TT.exit (.seq (.loop (.here (.seq (.seq (.region (.U hT 5 rfl (.split 35 rfl (fun p5=> ?_) (fun p5=> ?_)))))))))
  .
   obtain⟨y,hy⟩:=nth (l:=l) (i:=p) (by have:=of_decide_eq_true p5;omega)
   refine OT.U hT 2 rfl (.index hT rfl rfl rfl rfl hr (by omega) (by rw[Int.toNat_natCast];exact hy) rfl (fun OM Ah=> ?_))
   refine OT.load rfl rfl (Ah.bL hT rfl rfl) rfl (.U hT 3 rfl (.split 42 rfl (fun Ei=> ?_) (fun Ei=> ?_)))
   .
    have Ei:y=k:=of_decide_eq_true Ei
    refine OT.U hT 13 rfl (.nil (.seq (.ret (.of (rs:=[.tmp 4,.tmp 5]) [_,_] hs rfl (.tmp rfl (.tmp rfl .nil)) sl ?_))))
    try dsimp only[one]
    exact⟨p,by rw[hy,Ei,decide_eq_true rfl];rfl,⟨by omega,hlo,hhi⟩,rfl⟩
   .
    have Ei:¬y=k:=of_decide_eq_false Ei
    refine OT.U hT 2 rfl (.index hT rfl rfl rfl rfl hr (by omega) (by rw[Int.toNat_natCast];exact hy) rfl (fun JG pV=> ?_))
    refine OT.load rfl rfl (pV.bL hT rfl rfl) rfl (.call Tryz.call172 rfl rfl rfl rfl (DM) ?_)
    rintro Hx BI ⟨rfl,rfl⟩
    refine OT.U hT 1 rfl (.U hT 7 rfl (.nil (.seq (.ret (.of (rs:=[.tmp 4,.tmp 5]) [_,_] hs rfl (.tmp rfl (.tmp rfl .nil)) sl ?_)))))
    try dsimp only[one]
    exact⟨p,by rw[hy,decide_eq_false (fun h=>Ei (Option.some.inj h))];rfl,⟨by omega,hlo,hhi⟩,rfl⟩
  .
   have p5:¬p<l.length:=by have:=of_decide_eq_false p5;omega
   refine OT.U hT 20 rfl (.nil (.seq (.ret (.of (rs:=[.tmp 4,.tmp 5]) [_,_] hs rfl (.tmp rfl (.tmp rfl .nil)) sl ?_))))
   try dsimp only[one]
   exact⟨p,by rw[List.getElem?_eq_none (by omega),decide_eq_false (by simp)];rfl,⟨by omega,hlo,hhi⟩,rfl⟩
end Go.Proofs.YtihpkgmfkbkffaaGreat.Sx
end
section
namespace Go.Proofs.YtihpkgmfkbkffaaGreat.Sx
open Go Go.Sx Go.Pl
variable[au]
set_option maxHeartbeats 1000000 in
set_option maxRecDepth 100000 in
theorem LY{cs:List Value}{n:Nd}{k:ByteArray}{hs:List Chunk}(h:gf hs cs n)(hlc:n.cells.length<=1000)(hlk:n.keys.length<=1000000)(xw:n.kids.length<=1000000):aA Tryz.prog 97 [.agg ⟨cs⟩,.string k] hs (fun v' hs'=>((n.leaf=true\/¬dh n)/\v'= .int .i64 (-1)\/n.leaf=false/\dh n/\∃i:Nat,pP n.keys k i/\v'= .int .i64 (if n.keys[i]? =some k then(i:Int)+1 else(i:Int)))/\hs=hs'):=by
 refine aA.enter 25 Tryz.func97 rfl Tryz.ntmps97 rfl ?_
 obtain⟨vc,vk,vi,rfl,hc,hk,hi⟩:=h.is
 obtain⟨ac,cc,e1⟩:=hc.len
 obtain⟨ak,ck,e2⟩:=hk.len
 obtain⟨ai,ci,e3⟩:=hi.len
 subst e1 e2 e3
 have h:gf hs [.bool n.leaf,.slice ac n.cells.length cc,.slice ak n.keys.length ck,.slice ai n.kids.length ci] n:=⟨_,_,_,rfl,hc,hk,hi⟩
 refine TT.seq (.region (.box rfl rfl rfl (fun b_2=> ?_)))
 refine OT.U hT 1 rfl (.nil (.seq (.seq (.seq (.region (.U hT 1 rfl (.load rfl rfl (Ld.one hT rfl hz rfl) rfl ?_)))))))
 refine OT.U hT 1 rfl (.split 9 rfl (fun g9=> ?_) (fun g9=> ?_))
 .
  refine OT.U hT 4 rfl (.nil (.seq (.cond_true rfl (.seq (.region (.U hT 1 rfl (.nil (.seq (.ret (.of (rs:=[.tmp 4]) [_] hs rfl (.tmp rfl .nil) sl ?_))))))))))
  try dsimp only[one]
  exact⟨.inl ⟨.inl g9,rfl⟩,rfl⟩
 .
  refine OT.load rfl rfl (Ld.af hT rfl hz rfl) rfl ?_
  refine OT.call Tryz.call138 rfl rfl rfl rfl (Ad (h.mono fun _ _=> .there) (by omega) hlk xw) ?_
  rintro qE kR ⟨rfl,rfl⟩
  refine OT.U hT 2 rfl (.nil (.seq (.cond rfl (fun gM=> ?_) (fun gM=> ?_))))
  .
   have hm:¬dh n:=by simpa using gM
   refine TT.seq (.region (.U hT 1 rfl (.nil (.seq (.ret (.of (rs:=[.tmp 4]) [_] hs rfl (.tmp rfl .nil) sl ?_))))))
   try dsimp only[one]
   exact⟨.inl ⟨.inr hm,rfl⟩,rfl⟩
  .
   have hm:dh n:=by simpa using gM
   refine TT.skip (.seq (.seq (.region (.U hT 1 rfl (.load rfl rfl (Ld.slc hT rfl hz rfl) rfl ?_)))))
   refine OT.U hT 1 rfl (.call Tryz.call139 rfl rfl rfl rfl (DO hk.there hlk ((aX (by simpa using g9)).1 hm).2.2.1) ?_)
   rintro EB ET ⟨i,rfl,hst,rfl⟩
   refine OT.U hT 5 rfl (.nil (.seq (.seq (.seq (.region (.U hT 1 rfl (.nil (.seq (.cond rfl (fun eF=> ?_) (fun eF=> ?_))))))))))
   .
    have eF:n.keys[i]? =some k:=of_decide_eq_true eF
    have hil:=hst.le
    refine TT.region (.U hT 3 rfl (.nil (.seq (.seq (.region (.U hT 2 rfl (.nil (.seq (.ret (.of (rs:=[.tmp 4]) [_] hs rfl (.tmp rfl .nil) sl ?_))))))))))
    try dsimp only[one]
    exact⟨.inr ⟨by simpa using g9,hm,i,hst,int_eq (by rw[if_pos eF,wrap_i64 (by omega) (by omega)])⟩,rfl⟩
   .
    have eF:¬n.keys[i]? =some k:=of_decide_eq_false eF
    refine TT.skip (.seq (.seq (.region (.U hT 2 rfl (.nil (.seq (.ret (.of (rs:=[.tmp 4]) [_] hs rfl (.tmp rfl .nil) sl ?_))))))))
    try dsimp only[one]
    exact⟨.inr ⟨by simpa using g9,hm,i,hst,int_eq (by rw[if_neg eF])⟩,rfl⟩
end Go.Proofs.YtihpkgmfkbkffaaGreat.Sx
end
section
namespace Go.Proofs.YtihpkgmfkbkffaaGreat.Sx
open Go Go.Sx Go.Pl
variable[au]
set_option maxHeartbeats 1000000 in
set_option maxRecDepth 100000 in
theorem yE{v w:Value}{xs ys:List UInt8}{hs:List Chunk}(hr:Row Go.Sx.aB 1 hs v xs)(hq:Row Go.Sx.aB 1 hs w ys):aA Tryz.prog 122 [v,w] hs (fun v' hs'=>v'= .bool (decide (xs=ys))/\hs=hs'):=by
 refine aA.enter 10 Tryz.func122 rfl Tryz.ntmps122 rfl ?_
 refine TT.seq (.region (.U hT 1 rfl (.nil (.seq (.seq (.region (.U hT 1 rfl (.vX (fun _=>rfl) hT rfl rfl rfl rfl rfl hr rfl (.U hT 1 rfl (.vX (fun _=>rfl) hT rfl rfl rfl rfl rfl hq rfl (.U hT 2 rfl (.nil (.seq (.ret (.of (rs:=[.tmp 4]) [_] hs rfl (.tmp rfl .nil) sl ?_)))))))))))))))
 try dsimp only[one]
 refine⟨congrArg Value.bool (decide_eq_decide.2 ?_),rfl⟩
 constructor
 . intro h;injection h with h;injection h
 . intro h;rw[h]
set_option maxHeartbeats 1000000 in
set_option maxRecDepth 100000 in
theorem wq{b:Nat}{vr:Value}{r:Rd}{hs0 hs:List Chunk}(hr:Row Go.Sx.aB 1 hs0 vr r.l)(hh:∀b o,Has hs0 b o->Has hs b o){n e:Int}(hn:e=0->0<=n/\n<=r.l.length):aA Tryz.prog 169 [.pointer (some ⟨b,0,none⟩),.int .i64 n,.int .i64 e] ([(b,blk [vr,.bool r.bad] 234 (0,0))]::hs) (fun v' hs'=>v'= .tuple ⟨[]⟩/\∃M0,hs'=[(b,blk [M0,.bool (r.dV n e).bad] 234 (0,0))]::hs/\Row Go.Sx.aB 1 hs0 M0 (r.dV n e).l):=by
 refine aA.enter 31 Tryz.func169 rfl Tryz.ntmps169 rfl ?_
 obtain⟨a0,c0,hv⟩:=hr.len
 subst hv
 refine TT.seq (.region (.U hT 4 rfl (.load rfl rfl (Ld.one hT rfl hz rfl) rfl ?_)))
 refine OT.U hT 1 rfl (.split 11 rfl (fun G0=> ?_) (fun G0=> ?_))
 .
  have zL:r.dV n e=⟨r.l,true⟩:=by unfold Rd.dV;rw[if_pos (.inl G0)]
  refine OT.U hT 5 rfl (.store hT rfl rfl rfl rfl pl rfl (Nat.le_of_ble_eq_true rfl) rfl (.inl (Nat.le_refl _)) rfl ?_)
  refine OT.nil (.seq (.seq (.region (.U hT 3 rfl (.load rfl rfl (Ld.one hT rfl hz rfl) rfl ?_)))))
  refine OT.U hT 1 rfl (.nil (.seq (.cond_false rfl (.skip (.of (rs:=[]) [] ([(b,blk [.slice a0 r.l.length c0,.bool true] 234 (0,0))]::hs) rfl .nil sl ?_)))))
  try dsimp only[one]
  exact⟨rfl,_,by rw[zL],by rw[zL];exact hr⟩
 .
  refine OT.U hT 5 rfl (.store hT rfl rfl rfl rfl pl rfl (Nat.le_of_ble_eq_true rfl) rfl (.inl (Nat.le_refl _)) rfl ?_)
  refine OT.nil (.seq (.seq (.region (.U hT 3 rfl (.load rfl rfl (Ld.one hT rfl hz rfl) rfl ?_)))))
  refine OT.U hT 1 rfl (.nil (.seq (.cond rfl (fun eF=> ?_) (fun eF=> ?_))))
  .
   obtain rfl:e=0:=by simpa using eF
   have hn:=hn rfl
   obtain⟨m,rfl⟩:∃m:Nat,n=m:=⟨n.toNat,by omega⟩
   refine TT.region (.U hT 4 rfl (.load rfl rfl (Ld.slc hT rfl hz rfl) rfl ?_))
   refine OT.U hT 1 rfl (.b_ m r.l.length hT rfl rfl rfl rfl rfl (.inr ⟨_,rfl⟩) (.inl ⟨rfl,rfl⟩) (by omega) (by have:=hr.gN;omega) rfl ?_)
   refine OT.U hT 2 rfl (.store hT rfl rfl rfl rfl pl rfl (Nat.le_of_ble_eq_true rfl) rfl (.inl (Nat.le_refl _)) rfl ?_)
   refine OT.nil (.of (rs:=[]) [] ([(b,blk [_,.bool (0 !=0)] 234 (0,0))]::hs) rfl .nil sl ?_)
   try dsimp only[one]
   have hb:r.bad=false:=G0
   have zL:=Rd.jS (n:=(m:Int)) hb rfl
   have h2:=hr.sub (L:=m) (M:=r.l.length) (by omega) (Nat.le_refl _)
   rw[List.take_length]at h2
   exact⟨rfl,_,by rw[zL];rfl,by rw[zL];dsimp only;rw[Int.toNat_natCast];exact h2⟩
  .
   have eF:e≠0:=by simpa using eF
   have zL:r.dV n e=⟨r.l,true⟩:=by unfold Rd.dV;rw[if_pos (.inr eF)]
   refine TT.skip (.of (rs:=[]) [] ([(b,blk [.slice a0 r.l.length c0,.bool (e !=0)] 234 (0,0))]::hs) rfl .nil sl ?_)
   try dsimp only[one]
   exact⟨rfl,_,by rw[zL,show(e !=0)=true by simpa using eF],by rw[zL];exact hr⟩
set_option maxHeartbeats 1000000 in
set_option maxRecDepth 100000 in
theorem vW{b:Nat}{vr:Value}{r:Rd}{hs0 hs:List Chunk}(hr:Row Go.Sx.aB 1 hs0 vr r.l)(hh:∀b o,Has hs0 b o->Has hs b o)(hl:r.l.length<=1000000):aA Tryz.prog 167 [.pointer (some ⟨b,0,none⟩)] ([(b,blk [vr,.bool r.bad] 234 (0,0))]::hs) (fun v' hs'=>v'= .int .i64 (get r.l).1/\∃M0,hs'=[(b,blk [M0,.bool (r.dV (get r.l).2.1 (get r.l).2.2).bad] 234 (0,0))]::hs/\Row Go.Sx.aB 1 hs0 M0 (r.dV (get r.l).2.1 (get r.l).2.2).l):=by
 refine aA.enter 20 Tryz.func167 rfl Tryz.ntmps167 rfl ?_
 have hk:= @jz r.l
 refine TT.seq (.region (.U hT 1 rfl (.nil (.seq (.seq (.region (.U hT 3 rfl (.load rfl rfl (Ld.slc hT rfl hz rfl) rfl ?_))))))))
 refine OT.call Tryz.call120 rfl rfl rfl rfl (ke ((hr.mono hh).there) (by omega)) ?_
 rintro qE kR ⟨rfl,rfl⟩
 refine OT.U hT 7 rfl (.nil (.seq (.seq (.region (.U hT 3 rfl (.call Tryz.call169 rfl rfl rfl rfl (wq hr hh (fun h=>by have:=hk h;omega)) ?_))))))
 rintro EB ET ⟨rfl,Tt,rfl,kg⟩
 refine OT.nil (.seq (.seq (.region (.U hT 2 rfl (.nil (.seq (.ret (.of (rs:=[.tmp 2]) [_] ([(b,blk [Tt,.bool (r.dV (get r.l).2.1 (get r.l).2.2).bad] 234 (0,0))]::hs) rfl (.tmp rfl .nil) sl ?_))))))))
 try dsimp only[one]
 exact⟨rfl,Tt,rfl,kg⟩
set_option maxHeartbeats 4000000 in
set_option maxRecDepth 100000 in
theorem DP{v:Value}{bs:List UInt8}{hs:List Chunk}(hr:Row Go.Sx.aB 1 hs v bs):aA Tryz.prog 134 [v] hs (fun v' hs'=>∃K cs n e,hs'=K::hs/\v'= .tuple ⟨[.agg ⟨cs⟩,.int .i64 e]⟩/\iB 113 9 3 cs n K/\Kv bs n e):=by
 refine aA.enter 147 Tryz.func134 rfl Tryz.ntmps134 rfl ?_
 obtain⟨a0,c0,hv⟩:=hr.len
 subst hv
 refine TT.seq (.region (.alloc Tryz.zeroValue159 rfl rfl (fun b_2=> ?_)))
 refine OT.U hT 1 rfl (.nil (.seq (.seq (.seq (.region (.U hT 3 rfl (.nil (.seq (.cond rfl (fun vI=> ?_) (fun vI=> ?_))))))))))
 .
  have vI:¬(bs.length:Int)=256:=by simpa using vI
  refine TT.seq (.region (.build hT rfl Tryz.zeroValue159 rfl rfl rfl rfl (.ag hT rfl rfl rfl rfl pl rfl rfl rfl (.inl (Nat.le_refl _)) ?_)))
  refine OT.U hT 1 rfl (.nil (.seq (.ret (.of (rs:=[.cell 2 159,.tmp 3]) [_,_] ([]::hs) rfl (.cell rfl (Ld.af hT rfl hz rfl) (.tmp rfl .nil)) sl ?_))))
  try dsimp only[one]
  exact⟨[],_,CE,8,rfl,rfl,iB.none _ _ _,.bad rfl rfl (fun⟨n0,h0⟩=>vI (by rw[h0.len];rfl))⟩
 .
  have vI:(bs.length:Int)=256:=by simpa using vI
  have hcap:=hr.gN
  have hl:bs.length=256:=by omega
  have G5:=hr.sub (L:=1) (M:=bs.length) (by omega) (Nat.le_refl _)
  rw[List.take_length]at G5
  obtain⟨y,hy⟩:=nth (l:=bs) (i:=0) (by omega)
  refine TT.skip (.seq (.seq (.region (.U hT 1 rfl (.b_ 1 bs.length hT rfl rfl rfl rfl rfl (.inr ⟨_,rfl⟩) (.inl ⟨rfl,rfl⟩) (by omega) (by omega) rfl (.build hT rfl Tryz.zeroValue234 rfl rfl rfl rfl (.box rfl rfl rfl (fun vB=> ?_))))))))
  refine OT.U hT 1 rfl (.nil (.seq (.seq (.region (.U hT 1 rfl (.index hT rfl rfl rfl rfl (hr.there.there) (by omega) (by exact hy) rfl (fun ON Ai=> ?_)))))))
  refine OT.load rfl rfl (Ai.bL hT rfl rfl) rfl (.U hT 1 rfl (.build (cs:=[.bool ((y.toNat:Int)==1),.slice none 0 0,.slice none 0 0,.slice none 0 0]) hT rfl Tryz.zeroValue159 rfl rfl rfl rfl ?_))
  obtain⟨lf,hlf⟩:∃b,((y.toNat:Int)==1)=b:=⟨_,rfl⟩
  rw[hlf]
  have hlf:∀n0,bC bs n0->n0.leaf=lf:=fun n0 h0=>by
   rw[nF h0,hy,<-hlf]
   by_cases h:y=1
   . subst h;rfl
   . rw[decide_eq_false (by simpa using h)];symm;rw[beq_eq_false_iff_ne];intro h2;exact h (UInt8.toNat_inj.1 (by show y.toNat=1;omega))
  refine OT.alloc Tryz.zeroValue159 rfl rfl (fun g_=> ?_)
  refine OT.ag hT rfl rfl rfl rfl pl rfl rfl rfl (.inl (Nat.le_refl _)) ?_
  refine OT.nil (.seq (.cut (ι:=Rd×Value×Value×(List Cell)×Chunk) (fun j=>(∀n0,bC bs n0->n0.leaf=true->(j.1).bad=false/\n0=⟨true,(j.2.2.2.1),[],[]⟩)/\(j.2.2.2.1).length<=256/\(∀c∈(j.2.2.2.1),c.val.f<2^64/\c.new.f<2^64)/\Own aj 8 113 (j.2.2.1) (j.2.2.2.1) (j.2.2.2.2)/\(lf=false->(j.2.2.2.1)=[])) (fun j=>[(0,.slice a0 bs.length c0),(2,.pointer (some ⟨b_2,0,none⟩)),(4,.pointer (some ⟨vB,0,none⟩)),(5,.pointer (some ⟨g_,0,none⟩))]) (fun j=>(j.2.2.2.2)::[(vB,blk [(j.2.1),.bool (j.1).bad] 234 (0,0))]::[(g_,blk [.bool lf,(j.2.2.1),.slice none 0 0,.slice none 0 0] 159 (0,0))]::[(b_2,blk [.bool false,.slice none 0 0,.slice none 0 0,.slice none 0 0] 159 (0,0))]::hs) ?_ ?_))
  .
   refine TT.seq (.region (.U hT 1 rfl (.call Tryz.call167 rfl rfl rfl rfl (aA.pull pl (vW (r:=⟨bs.drop 1,false⟩) G5 (fun _ _ h=> .there (.there h)) (by dsimp only;rw[List.length_drop];omega))) ?_)))
   rintro Hu EY ⟨rfl,VM,rfl,kg⟩
   refine OT.U hT 1 rfl (.nil (.seq (.block (.loop (ι:=Int×Rd×Value×Value×(List Cell)×Chunk) (fun j=>qn bs (j.1) (j.2.1) (j.2.2.2.2.1)/\Row Go.Sx.aB 1 hs (j.2.2.1) (j.2.1).l/\Own aj 8 113 (j.2.2.2.1) (j.2.2.2.2.1) (j.2.2.2.2.2)/\(lf=false->(j.2.2.2.2.1)=[])/\(j.1)<=9223372036854775807) (fun j=>if(j.2.1).bad=true then 0 else(j.2.1).l.length+1) (fun j=>[(0,.slice a0 bs.length c0),(2,.pointer (some ⟨b_2,0,none⟩)),(4,.pointer (some ⟨vB,0,none⟩)),(5,.pointer (some ⟨g_,0,none⟩)),(6,.int .i64 (j.1))]) (fun j=>(j.2.2.2.2.2)::[(vB,blk [(j.2.2.1),.bool (j.2.1).bad] 234 (0,0))]::[(g_,blk [.bool lf,(j.2.2.2.1),.slice none 0 0,.slice none 0 0] 159 (0,0))]::[(b_2,blk [.bool false,.slice none 0 0,.slice none 0 0,.slice none 0 0] 159 (0,0))]::hs) (_,_,VM,.slice none 0 0,[],[]) ?_ (aa.cons rfl (aa.cons rfl (aa.cons rfl (aa.cons rfl (aa.cons rfl (aa.nil _)))))) sl ?_))))
   . dsimp only
     exact⟨qn.start hl,kg,Own.nil,fun _=>rfl,(p_ _).2⟩
   rintro⟨k,r,vr,vc,cells,K⟩ hI
   dsimp only at hI
   obtain⟨hI,Ej,hO,zo,Ea⟩:=hI
   show TT _ _ _ [(0,.slice a0 bs.length c0),(2,.pointer (some ⟨b_2,0,none⟩)),(4,.pointer (some ⟨vB,0,none⟩)),(5,.pointer (some ⟨g_,0,none⟩)),(6,.int .i64 k)] (K::[(vB,blk [vr,.bool r.bad] 234 (0,0))]::[(g_,blk [.bool lf,vc,.slice none 0 0,.slice none 0 0] 159 (0,0))]::[(b_2,blk [.bool false,.slice none 0 0,.slice none 0 0,.slice none 0 0] 159 (0,0))]::hs)
   refine TT.seq (.seq (.region (.U hT 3 rfl (.split 35 rfl (fun p5=> ?_) (fun p5=> ?_)))))
   .
    have p5:=of_decide_eq_true p5
    refine OT.U hT 3 rfl (.load rfl rfl (Ld.one hT rfl hz rfl) rfl ?_)
    refine OT.U hT 3 rfl (.split 42 rfl (fun Ei=> ?_) (fun Ei=> ?_))
    .
     have hb:r.bad=false:=by simpa using Ei
     have hrl:=hI.room hb
     refine OT.U hT 1 rfl (.load rfl rfl (Ld.one hT rfl hz rfl) rfl ?_)
     refine OT.U hT 1 rfl (.nil (.seq (.cond rfl (fun G6=> ?_) (fun G6=> ?_))))
     .
      refine TT.skip (.seq (.seq (.block (.seq (.region (.U hT 3 rfl (.load rfl rfl (Ld.slc hT rfl hz rfl) rfl ?_)))))))
      refine OT.call Tryz.call168 rfl rfl rfl rfl (LR (Ej.there.there.there.there) (by omega)) ?_
      rintro ND OO ⟨rfl,rfl⟩
      refine OT.U hT 4 rfl (.alloc Tryz.zeroValue113 rfl rfl (fun Mu=> ?_))
      refine OT.ag hT rfl rfl rfl rfl pl rfl rfl rfl (.inl (Nat.le_refl _)) ?_
      refine OT.U hT 2 rfl (.nil (.seq (.seq (.region (.U hT 3 rfl (.call Tryz.call169 rfl rfl rfl rfl (aA.pull pl (wq Ej (fun _ _ h=>(.there (.there (.there (.there h))))) (fun h=>by have:=uD h;omega))) ?_))))))
      rintro NJ JH ⟨rfl,Jf,rfl,Jg⟩
      refine OT.nil (.seq (.region (.U hT 1 rfl (.load rfl rfl (Ld.slc hT rfl hz rfl) rfl ?_))))
      refine OT.load rfl rfl (Ld.af hT rfl hz rfl) rfl ?_
      refine OT.buildSlice (enc:=aj) (xs:=[(bA r.l).1]) (gQ:=[.tmp 63]) jE rfl rfl rfl rfl rfl (by simp[Value.cells];rfl) (fun _ _=>rfl) rfl (by decide) rfl (fun KJ WI OP=> ?_)
      refine OT.append hT jE rfl rfl rfl rfl pl hO OP.row rfl (by have:=hI.iZ;simp only[List.length_singleton];omega) rfl (fun WJ R9 JI=> ?_)
      obtain⟨XP,XQ,rfl⟩:=(JI.row (hs:=hs)).len
      refine OT.U hT 1 rfl (.store hT rfl rfl rfl rfl pl rfl (Nat.le_of_ble_eq_true rfl) rfl (.inl (Nat.le_refl _)) rfl ?_)
      refine OT.nil (.blk (.seq (.region (.U hT 3 rfl (.nil (.loop (k-1,r.dV (bA r.l).2.1 (bA r.l).2.2,Jf,_,cells++[(bA r.l).1],R9) ?_ ?_ (aa.cons rfl (aa.cons rfl (aa.cons rfl (aa.cons rfl (aa.aM rfl (by(try dsimp only);exact(int_eq (by rw[wrap_i64 (by omega) (by omega)]))) (aa.nil _)))))) sl))))))
      . dsimp only
        exact⟨(hI.step hb p5).1,Jg,JI,fun h=>(by rw[G6]at h;cases h),by omega⟩
      . dsimp only
        exact ov hb (hI.step hb p5).2
     .
      refine TT.exit (.seq (.loop (.here (.cut (r,vr,vc,cells,K) ?_ (aa.cons rfl (aa.cons rfl (aa.cons rfl (aa.cons rfl (aa.nil _))))) sl))))
      . dsimp only
        exact⟨fun n0 h0 hl=>(by rw[hlf n0 h0,G6]at hl;cases hl),hI.iZ,hI.fl,hO,zo⟩
    .
     have hb:r.bad=true:=by simpa using Ei
     refine OT.U hT 3 rfl (.nil (.seq (.cond_false rfl (.exit (.seq (.loop (.here (.cut (r,vr,vc,cells,K) ?_ (aa.cons rfl (aa.cons rfl (aa.cons rfl (aa.cons rfl (aa.nil _))))) sl))))))))
     . dsimp only
       exact⟨fun n0 h0 hl=>uE hI (.inr hb) h0 hl,hI.iZ,hI.fl,hO,zo⟩
   .
    have p5:=of_decide_eq_false p5
    refine OT.U hT 10 rfl (.nil (.seq (.cond_false rfl (.exit (.seq (.loop (.here (.cut (r,vr,vc,cells,K) ?_ (aa.cons rfl (aa.cons rfl (aa.cons rfl (aa.cons rfl (aa.nil _))))) sl))))))))
    . dsimp only
      exact⟨fun n0 h0 hl=>uE hI (.inl p5) h0 hl,hI.iZ,hI.fl,hO,zo⟩
  .
   rintro⟨r,vr,vc,cells,K⟩ hI
   dsimp only at hI
   obtain⟨hlv,ki,hfl,hO,zo⟩:=hI
   show TT _ _ _ [(0,.slice a0 bs.length c0),(2,.pointer (some ⟨b_2,0,none⟩)),(4,.pointer (some ⟨vB,0,none⟩)),(5,.pointer (some ⟨g_,0,none⟩))] (K::[(vB,blk [vr,.bool r.bad] 234 (0,0))]::[(g_,blk [.bool lf,vc,.slice none 0 0,.slice none 0 0] 159 (0,0))]::[(b_2,blk [.bool false,.slice none 0 0,.slice none 0 0,.slice none 0 0] 159 (0,0))]::hs)
   refine TT.cut (ι:=Nat×Rd×Value×(List Value)×Nd×Chunk) (fun j=>iB 113 9 3 (j.2.2.2.1) (j.2.2.2.2.1) (j.2.2.2.2.2)/\(∀n0,bC bs n0->(j.2.1).bad=false/\n0=(j.2.2.2.2.1))/\(j.2.2.2.2.1).cells.length<=256/\(j.2.2.2.2.1).keys.length<=256/\(j.2.2.2.2.1).kids.length<=256/\(∀c∈(j.2.2.2.2.1).cells,c.val.f<2^64/\c.new.f<2^64)) (fun j=>[(0,.slice a0 bs.length c0),(2,.pointer (some ⟨b_2,0,none⟩)),(4,.pointer (some ⟨(j.1),0,none⟩)),(5,.pointer (some ⟨g_,0,none⟩))]) (fun j=>(j.2.2.2.2.2)::[((j.1),blk [(j.2.2.1),.bool (j.2.1).bad] 234 (0,0))]::[(g_,blk (j.2.2.2.1) 159 (0,0))]::[(b_2,blk [.bool false,.slice none 0 0,.slice none 0 0,.slice none 0 0] 159 (0,0))]::hs) ?_ ?_
   .
    refine TT.seq (.region (.U hT 1 rfl (.load rfl rfl (Ld.one hT rfl hz rfl) rfl ?_)))
    refine OT.U hT 1 rfl (.nil (.seq (.cond rfl (fun QI=> ?_) (fun QI=> ?_))))
    .
     obtain rfl:lf=false:=by simpa using QI
     obtain rfl:=zo rfl
     refine TT.seq (.region (.U hT 1 rfl (.b_ 1 bs.length hT rfl rfl rfl rfl rfl (.inr ⟨_,rfl⟩) (.inl ⟨rfl,rfl⟩) (by omega) (by omega) rfl (.build hT rfl Tryz.zeroValue234 rfl rfl rfl rfl (.box rfl rfl rfl (fun n9=> ?_))))))
     refine OT.U hT 1 rfl (.nil (.seq (.seq (.region (.U hT 1 rfl (.call Tryz.call167 rfl rfl rfl rfl (aA.pull pl (vW (r:=⟨bs.drop 1,false⟩) G5 (fun _ _ h=> .there (.there (.there (.there h)))) (by dsimp only;rw[List.length_drop];omega))) ?_))))))
     rintro R_ OQ ⟨rfl,VN,rfl,VO⟩
     refine OT.U hT 1 rfl (.nil (.seq (.cut (ι:=Nat×Rd×Value×Value×(List Int)×Chunk) (fun j=>mR bs (get (bs.drop 1)).1 1 (j.2.1) (j.2.2.2.2.1) []/\Row Go.Sx.aB 1 hs (j.2.2.1) (j.2.1).l/\Own Go.Sx.cM 1 3 (j.2.2.2.1) (j.2.2.2.2.1) (j.2.2.2.2.2)/\(j.2.2.2.2.1).length<=256) (fun j=>[(0,.slice a0 bs.length c0),(2,.pointer (some ⟨b_2,0,none⟩)),(4,.pointer (some ⟨n9,0,none⟩)),(5,.pointer (some ⟨g_,0,none⟩)),(10,.int .i64 (get (bs.drop 1)).1)]) (fun j=>(j.2.2.2.2.2)::K::[(n9,blk [(j.2.2.1),.bool (j.2.1).bad] 234 (0,0))]::[(g_,blk [.bool false,vc,.slice none 0 0,(j.2.2.2.1)] 159 (0,0))]::[(b_2,blk [.bool false,.slice none 0 0,.slice none 0 0,.slice none 0 0] 159 (0,0))]::hs) ?_ ?_)))
     .
      refine TT.seq (.region (.U hT 1 rfl (.nil (.seq (.block (.loop (ι:=Nat×Rd×Value×Value×(List Int)×Chunk) (fun j=>qo bs (get (bs.drop 1)).1 (j.1) (j.2.1) (j.2.2.2.2.1)/\Row Go.Sx.aB 1 hs (j.2.2.1) (j.2.1).l/\Own Go.Sx.cM 1 3 (j.2.2.2.1) (j.2.2.2.2.1) (j.2.2.2.2.2)) (fun j=>if(j.2.1).bad=true then 0 else(j.2.1).l.length+1) (fun j=>[(0,.slice a0 bs.length c0),(2,.pointer (some ⟨b_2,0,none⟩)),(4,.pointer (some ⟨n9,0,none⟩)),(5,.pointer (some ⟨g_,0,none⟩)),(10,.int .i64 (get (bs.drop 1)).1),(11,.int .i64 ((j.1):Nat))]) (fun j=>(j.2.2.2.2.2)::K::[(n9,blk [(j.2.2.1),.bool (j.2.1).bad] 234 (0,0))]::[(g_,blk [.bool false,vc,.slice none 0 0,(j.2.2.2.1)] 159 (0,0))]::[(b_2,blk [.bool false,.slice none 0 0,.slice none 0 0,.slice none 0 0] 159 (0,0))]::hs) (0,_,VN,.slice none 0 0,[],[]) ?_ (aa.cons rfl (aa.cons rfl (aa.cons rfl (aa.cons rfl (aa.cons rfl (aa.cons rfl (aa.nil _))))))) sl ?_))))))
      . dsimp only
        exact⟨qo.start hl,VO,Own.nil⟩
      rintro⟨i,r,vr,vi,kids,KI⟩ hI
      dsimp only at hI
      obtain⟨hI,Ej,Jh⟩:=hI
      show TT _ _ _ [(0,.slice a0 bs.length c0),(2,.pointer (some ⟨b_2,0,none⟩)),(4,.pointer (some ⟨n9,0,none⟩)),(5,.pointer (some ⟨g_,0,none⟩)),(10,.int .i64 (get (bs.drop 1)).1),(11,.int .i64 (i:Nat))] (KI::K::[(n9,blk [vr,.bool r.bad] 234 (0,0))]::[(g_,blk [.bool false,vc,.slice none 0 0,vi] 159 (0,0))]::[(b_2,blk [.bool false,.slice none 0 0,.slice none 0 0,.slice none 0 0] 159 (0,0))]::hs)
      refine TT.seq (.seq (.region (.U hT 4 rfl (.split 79 rfl (fun vJ=> ?_) (fun vJ=> ?_)))))
      .
       have vJ:=of_decide_eq_true vJ
       refine OT.U hT 3 rfl (.load rfl rfl (Ld.one hT rfl hz rfl) rfl ?_)
       refine OT.U hT 2 rfl (.nil (.seq (.cond rfl (fun QJ=> ?_) (fun QJ=> ?_))))
       .
        have hb:r.bad=false:=by simpa using QJ
        have hrl:=hI.room hb
        have Ea:=(p_ (bs.drop 1)).2
        have VP:=hI.iZ
        have hik:=hI.JY
        refine TT.skip (.seq (.seq (.block (.draw (hs) mixed (.takes (fuel:=6) hT [0,2] kr kr rfl (.all (fuel:=5) [1,3] kr (by decide) sl ?_))))))
        intro i hi
        simp only[List.mem_cons,List.not_mem_nil,or_false]at hi
        rcases hi with rfl|rfl
        .
         refine⟨_,rfl,?_⟩
         refine OT.load rfl rfl (Ld.slc hT rfl hz rfl) rfl ?_
         refine OT.nil (.any (.op (fuel:=4) 3 kr rfl sl (.call Tryz.call167 rfl rfl rfl rfl (aA.pull pl (vW Ej (fun _ _ h=> .there (.there (.there (.there h)))) (by omega))) ?_)))
         rintro KN OR ⟨rfl,Jf,rfl,Jg⟩
         refine OT.nil (.any (.op (fuel:=3) 4 kr rfl sl ?_))
         refine OT.buildSlice (enc:=Go.Sx.cM) (xs:=[(get r.l).1]) (gQ:=[.tmp 91]) jw rfl rfl rfl rfl rfl (by simp[Value.cells]) (fun _ _=>rfl) rfl (by decide) rfl (fun NK NL xL=> ?_)
         refine OT.nil (.any (.op (fuel:=2) 5 kr rfl sl ?_))
         refine OT.append hT jw rfl rfl rfl rfl pl Jh xL.row rfl (by simp only[List.length_singleton];omega) rfl (fun NM EF qu=> ?_)
         obtain⟨Tu,Tv,rfl⟩:=(qu.row (hs:=hs)).len
         refine OT.nil (.any (.takes (fuel:=1) hT [6] kr kr rfl (.op (fuel:=0) 7 kr rfl sl (.store hT rfl rfl rfl rfl pl rfl (Nat.le_of_ble_eq_true rfl) rfl (.inl (Nat.le_refl _)) rfl ?_))))
         refine OT.nil (.any (.done kr sl (.blk (.seq (.region (.U hT 3 rfl (.nil (.loop (i+1,r.dV (get r.l).2.1 (get r.l).2.2,Jf,_,kids++[(get r.l).1],EF) ?_ ?_ (aa.cons rfl (aa.cons rfl (aa.cons rfl (aa.cons rfl (aa.cons rfl (aa.aM rfl (by(try dsimp only);exact(int_eq (by rw[wrap_i64 (by omega) (by omega)];omega))) (aa.nil _))))))) sl))))))))
         . dsimp only
           exact⟨(hI.step hb vJ).1,Jg,qu⟩
         . dsimp only
           exact ov hb (hI.step hb vJ).2
        .
         refine⟨_,rfl,?_⟩
         refine OT.call Tryz.call167 rfl rfl rfl rfl (aA.pull pl (vW Ej (fun _ _ h=> .there (.there (.there (.there h)))) (by omega))) ?_
         rintro KN OR ⟨rfl,Jf,rfl,Jg⟩
         refine OT.nil (.any (.all (fuel:=4) [1,4] kr (by decide) sl ?_))
         intro i hi
         simp only[List.mem_cons,List.not_mem_nil,or_false]at hi
         rcases hi with rfl|rfl
         .
          refine⟨_,rfl,?_⟩
          refine OT.load rfl rfl (Ld.slc hT rfl hz rfl) rfl ?_
          refine OT.nil (.any (.op (fuel:=3) 4 kr rfl sl ?_))
          refine OT.buildSlice (enc:=Go.Sx.cM) (xs:=[(get r.l).1]) (gQ:=[.tmp 91]) jw rfl rfl rfl rfl rfl (by simp[Value.cells]) (fun _ _=>rfl) rfl (by decide) rfl (fun NK NL xL=> ?_)
          refine OT.nil (.any (.op (fuel:=2) 5 kr rfl sl ?_))
          refine OT.append hT jw rfl rfl rfl rfl pl Jh xL.row rfl (by simp only[List.length_singleton];omega) rfl (fun NM EF qu=> ?_)
          obtain⟨Tu,Tv,rfl⟩:=(qu.row (hs:=hs)).len
          refine OT.nil (.any (.takes (fuel:=1) hT [6] kr kr rfl (.op (fuel:=0) 7 kr rfl sl (.store hT rfl rfl rfl rfl pl rfl (Nat.le_of_ble_eq_true rfl) rfl (.inl (Nat.le_refl _)) rfl ?_))))
          refine OT.nil (.any (.done kr sl (.blk (.seq (.region (.U hT 3 rfl (.nil (.loop (i+1,r.dV (get r.l).2.1 (get r.l).2.2,Jf,_,kids++[(get r.l).1],EF) ?_ ?_ (aa.cons rfl (aa.cons rfl (aa.cons rfl (aa.cons rfl (aa.cons rfl (aa.aM rfl (by(try dsimp only);exact(int_eq (by rw[wrap_i64 (by omega) (by omega)];omega))) (aa.nil _))))))) sl))))))))
          . dsimp only
            exact⟨(hI.step hb vJ).1,Jg,qu⟩
          . dsimp only
            exact ov hb (hI.step hb vJ).2
         .
          refine⟨_,rfl,?_⟩
          refine OT.buildSlice (enc:=Go.Sx.cM) (xs:=[(get r.l).1]) (gQ:=[.tmp 91]) jw rfl rfl rfl rfl rfl (by simp[Value.cells]) (fun _ _=>rfl) rfl (by decide) rfl (fun NK NL xL=> ?_)
          refine OT.nil (.any (.op (fuel:=3) 1 kr rfl sl (.load rfl rfl (Ld.slc hT rfl hz rfl) rfl ?_)))
          refine OT.nil (.any (.op (fuel:=2) 5 kr rfl sl ?_))
          refine OT.append hT jw rfl rfl rfl rfl pl Jh xL.row rfl (by simp only[List.length_singleton];omega) rfl (fun NM EF qu=> ?_)
          obtain⟨Tu,Tv,rfl⟩:=(qu.row (hs:=hs)).len
          refine OT.nil (.any (.takes (fuel:=1) hT [6] kr kr rfl (.op (fuel:=0) 7 kr rfl sl (.store hT rfl rfl rfl rfl pl rfl (Nat.le_of_ble_eq_true rfl) rfl (.inl (Nat.le_refl _)) rfl ?_))))
          refine OT.nil (.any (.done kr sl (.blk (.seq (.region (.U hT 3 rfl (.nil (.loop (i+1,r.dV (get r.l).2.1 (get r.l).2.2,Jf,_,kids++[(get r.l).1],EF) ?_ ?_ (aa.cons rfl (aa.cons rfl (aa.cons rfl (aa.cons rfl (aa.cons rfl (aa.aM rfl (by(try dsimp only);exact(int_eq (by rw[wrap_i64 (by omega) (by omega)];omega))) (aa.nil _))))))) sl))))))))
          . dsimp only
            exact⟨(hI.step hb vJ).1,Jg,qu⟩
          . dsimp only
            exact ov hb (hI.step hb vJ).2
       .
        have hb:r.bad=true:=by simpa using QJ
        refine TT.exit (.seq (.loop (.here (.cut (i,r,vr,vi,kids,KI) ?_ (aa.cons rfl (aa.cons rfl (aa.cons rfl (aa.cons rfl (aa.cons rfl (aa.nil _)))))) sl))))
        . dsimp only
          exact⟨mR.start hI (.inr hb),Ej,Jh,hI.iZ⟩
      .
       have vJ:=of_decide_eq_false vJ
       refine OT.U hT 6 rfl (.nil (.seq (.cond_false rfl (.exit (.seq (.loop (.here (.cut (i,r,vr,vi,kids,KI) ?_ (aa.cons rfl (aa.cons rfl (aa.cons rfl (aa.cons rfl (aa.cons rfl (aa.nil _)))))) sl))))))))
       . dsimp only
         exact⟨mR.start hI (.inl vJ),Ej,Jh,hI.iZ⟩
     .
      rintro⟨i,r,vr,vi,kids,KI⟩ hI
      dsimp only at hI
      obtain⟨dU,Ej,Jh,QK⟩:=hI
      show TT _ _ _ [(0,.slice a0 bs.length c0),(2,.pointer (some ⟨b_2,0,none⟩)),(4,.pointer (some ⟨n9,0,none⟩)),(5,.pointer (some ⟨g_,0,none⟩)),(10,.int .i64 (get (bs.drop 1)).1)] (KI::K::[(n9,blk [vr,.bool r.bad] 234 (0,0))]::[(g_,blk [.bool false,vc,.slice none 0 0,vi] 159 (0,0))]::[(b_2,blk [.bool false,.slice none 0 0,.slice none 0 0,.slice none 0 0] 159 (0,0))]::hs)
      refine TT.seq (.region (.U hT 1 rfl (.nil (.seq (.block (.loop (ι:=Nat×Rd×Value×Value×(List ByteArray)×Chunk) (fun j=>mR bs (get (bs.drop 1)).1 (j.1) (j.2.1) kids (j.2.2.2.2.1)/\Row Go.Sx.aB 1 hs (j.2.2.1) (j.2.1).l/\Own Go.Sx.ij 1 9 (j.2.2.2.1) (j.2.2.2.2.1) (j.2.2.2.2.2)) (fun j=>if(j.2.1).bad=true then 0 else(j.2.1).l.length+1) (fun j=>[(0,.slice a0 bs.length c0),(2,.pointer (some ⟨b_2,0,none⟩)),(4,.pointer (some ⟨n9,0,none⟩)),(5,.pointer (some ⟨g_,0,none⟩)),(10,.int .i64 (get (bs.drop 1)).1),(12,.int .i64 ((j.1):Nat))]) (fun j=>(j.2.2.2.2.2)::KI::K::[(n9,blk [(j.2.2.1),.bool (j.2.1).bad] 234 (0,0))]::[(g_,blk [.bool false,vc,(j.2.2.2.1),vi] 159 (0,0))]::[(b_2,blk [.bool false,.slice none 0 0,.slice none 0 0,.slice none 0 0] 159 (0,0))]::hs) (1,_,vr,.slice none 0 0,[],[]) ?_ (aa.cons rfl (aa.cons rfl (aa.cons rfl (aa.cons rfl (aa.cons rfl (aa.cons rfl (aa.nil _))))))) sl ?_))))))
      . dsimp only
        exact⟨dU,Ej,Own.nil⟩
      rintro⟨i,r,vr,vk,keys,KK⟩ hI
      dsimp only at hI
      obtain⟨hI,Tw,QL⟩:=hI
      show TT _ _ _ [(0,.slice a0 bs.length c0),(2,.pointer (some ⟨b_2,0,none⟩)),(4,.pointer (some ⟨n9,0,none⟩)),(5,.pointer (some ⟨g_,0,none⟩)),(10,.int .i64 (get (bs.drop 1)).1),(12,.int .i64 (i:Nat))] (KK::KI::K::[(n9,blk [vr,.bool r.bad] 234 (0,0))]::[(g_,blk [.bool false,vc,vk,vi] 159 (0,0))]::[(b_2,blk [.bool false,.slice none 0 0,.slice none 0 0,.slice none 0 0] 159 (0,0))]::hs)
      refine TT.seq (.seq (.region (.U hT 4 rfl (.split 98 rfl (fun CX=> ?_) (fun CX=> ?_)))))
      .
       have CX:=of_decide_eq_true CX
       refine OT.U hT 3 rfl (.load rfl rfl (Ld.one hT rfl hz rfl) rfl ?_)
       refine OT.U hT 2 rfl (.nil (.seq (.cond rfl (fun KO=> ?_) (fun KO=> ?_))))
       .
        have hb:r.bad=false:=by simpa using KO
        have hrl:=hI.room hb
        have Ea:=(p_ (bs.drop 1)).2
        have VP:=hI.iZ
        have hik:=hI.JY
        refine TT.skip (.seq (.seq (.block (.seq (.region (.U hT 3 rfl (.load rfl rfl (Ld.slc hT rfl hz rfl) rfl ?_)))))))
        refine OT.call Tryz.call160 rfl rfl rfl rfl (jj (Tw.there.there.there.there.there.there) (by omega)) ?_
        rintro Uh SO ⟨rfl,rfl⟩
        refine OT.U hT 7 rfl (.nil (.seq (.seq (.region (.U hT 3 rfl (.call Tryz.call169 rfl rfl rfl rfl (aA.pull pl (wq Tw (fun _ _ h=> .there (.there (.there (.there (.there h))))) (fun h=>by have:=eR h;omega))) ?_))))))
        rintro Ui SP ⟨rfl,Jf,rfl,Jg⟩
        refine OT.nil (.seq (.region (.U hT 1 rfl (.load rfl rfl (Ld.slc hT rfl hz rfl) rfl ?_))))
        refine OT.U hT 1 rfl ?_
        refine OT.buildSlice (enc:=Go.Sx.ij) (xs:=[(a_ r.l).1]) (gQ:=[.tmp 122]) rI rfl rfl rfl rfl rfl (by simp[Value.cells]) (fun _ _=>rfl) rfl (by decide) rfl (fun Uj Uk LZ=> ?_)
        refine OT.append hT rI rfl rfl rfl rfl pl QL LZ.row rfl (by simp only[List.length_singleton];omega) rfl (fun Ul OS Fo=> ?_)
        obtain⟨WK,WL,rfl⟩:=(Fo.row (hs:=hs)).len
        refine OT.U hT 1 rfl (.store hT rfl rfl rfl rfl pl rfl (Nat.le_of_ble_eq_true rfl) rfl (.inl (Nat.le_refl _)) rfl ?_)
        refine OT.nil (.blk (.seq (.region (.U hT 3 rfl (.nil (.loop (i+1,r.dV (a_ r.l).2.1 (a_ r.l).2.2,Jf,_,keys++[(a_ r.l).1],OS) ?_ ?_ (aa.cons rfl (aa.cons rfl (aa.cons rfl (aa.cons rfl (aa.cons rfl (aa.aM rfl (by(try dsimp only);exact(int_eq (by rw[wrap_i64 (by omega) (by omega)];omega))) (aa.nil _))))))) sl))))))
        . dsimp only
          exact⟨(hI.step hb CX).1,Jg,Fo⟩
        . dsimp only
          exact ov hb (hI.step hb CX).2
       .
        have hb:r.bad=true:=by simpa using KO
        refine TT.exit (.seq (.loop (.here (.cut (n9,r,vr,[.bool false,vc,vk,vi],⟨false,[],keys,kids⟩,K++(KK++KI)) ?_ (aa.cons rfl (aa.cons rfl (aa.cons rfl (aa.cons rfl (aa.nil _))))) sl))))
        . dsimp only
          exact⟨⟨_,_,_,K,KK,KI,rfl,rfl,hO,QL,Jh⟩,fun n0 h0=>uF hI (.inr hb) h0 (hlf n0 h0),by simp,hI.iZ,QK,by simp⟩
      .
       have CX:=of_decide_eq_false CX
       refine OT.U hT 6 rfl (.nil (.seq (.cond_false rfl (.exit (.seq (.loop (.here (.cut (n9,r,vr,[.bool false,vc,vk,vi],⟨false,[],keys,kids⟩,K++(KK++KI)) ?_ (aa.cons rfl (aa.cons rfl (aa.cons rfl (aa.cons rfl (aa.nil _))))) sl))))))))
       . dsimp only
         exact⟨⟨_,_,_,K,KK,KI,rfl,rfl,hO,QL,Jh⟩,fun n0 h0=>uF hI (.inl CX) h0 (hlf n0 h0),by simp,hI.iZ,QK,by simp⟩
    .
     obtain rfl:lf=true:=by simpa using QI
     refine TT.skip (.cut (vB,r,vr,[.bool true,vc,.slice none 0 0,.slice none 0 0],⟨true,cells,[],[]⟩,K++([]++[])) ?_ (aa.cons rfl (aa.cons rfl (aa.cons rfl (aa.cons rfl (aa.nil _))))) (by rw[List.append_nil,List.append_nil];exact sl))
     . dsimp only
       exact⟨⟨_,_,_,K,[],[],rfl,rfl,hO,Own.nil,Own.nil⟩,fun n0 h0=>hlv n0 h0 (hlf n0 h0),ki,by simp,by simp,hfl⟩
   .
    rintro⟨bR,r,vr,cs,n,K⟩ hI
    dsimp only at hI
    obtain⟨hN,hn0,XR,QK,XS,Tx⟩:=hI
    show TT _ _ _ [(0,.slice a0 bs.length c0),(2,.pointer (some ⟨b_2,0,none⟩)),(4,.pointer (some ⟨bR,0,none⟩)),(5,.pointer (some ⟨g_,0,none⟩))] (K::[(bR,blk [vr,.bool r.bad] 234 (0,0))]::[(g_,blk cs 159 (0,0))]::[(b_2,blk [.bool false,.slice none 0 0,.slice none 0 0,.slice none 0 0] 159 (0,0))]::hs)
    refine TT.seq (.region (.load rfl rfl (Ld.af hT rfl hz hN.four) rfl ?_))
    refine OT.call Tryz.call144 rfl rfl rfl rfl (ql (hN.at _) (by omega) (by omega) (by omega) Tx) ?_
    rintro Um SQ ⟨KE,wE,rfl,rfl,Ji⟩
    refine OT.U hT 5 rfl (.nil (.seq (.seq (.seq (.region (.U hT 3 rfl (.load rfl rfl (Ld.one hT rfl hz rfl) rfl ?_)))))))
    refine OT.U hT 1 rfl (.split 135 rfl (fun NN=> ?_) (fun NN=> ?_))
    .
     refine OT.U hT 9 rfl (.nil (.seq (.cond_true rfl (.seq (.region (.build hT rfl Tryz.zeroValue159 rfl rfl rfl rfl (.ag hT rfl rfl rfl rfl pl rfl rfl rfl (.inl (Nat.le_refl _)) ?_)))))))
     refine OT.U hT 1 rfl (.nil (.seq (.ret (.of (rs:=[.cell 2 159,.tmp 3]) [_,_] ([]::hs) rfl (.cell rfl (Ld.af hT rfl hz rfl) (.tmp rfl .nil)) sl ?_))))
     try dsimp only[one]
     exact⟨[],_,CE,8,rfl,rfl,iB.none _ _ _,.bad rfl rfl (fun⟨n0,h0⟩=>by have:=(hn0 n0 h0).1;rw[NN]at this;cases this)⟩
    .
     refine OT.U hT 4 rfl (.split 139 rfl (fun zG=> ?_) (fun zG=> ?_))
     .
      have zG:(bU n).2≠0:=by simpa using zG
      refine OT.U hT 5 rfl (.nil (.seq (.cond_true rfl (.seq (.region (.build hT rfl Tryz.zeroValue159 rfl rfl rfl rfl (.ag hT rfl rfl rfl rfl pl rfl rfl rfl (.inl (Nat.le_refl _)) ?_)))))))
      refine OT.U hT 1 rfl (.nil (.seq (.ret (.of (rs:=[.cell 2 159,.tmp 3]) [_,_] ([]::hs) rfl (.cell rfl (Ld.af hT rfl hz rfl) (.tmp rfl .nil)) sl ?_))))
      try dsimp only[one]
      exact⟨[],_,CE,8,rfl,rfl,iB.none _ _ _,.bad rfl rfl (fun⟨n0,h0⟩=>by have:=(hn0 n0 h0).2;subst this;exact zG (fS.2 h0.1.fits))⟩
     .
      have zG:(bU n).2=0:=by simpa using zG
      refine OT.U hT 2 rfl (.call Tryz.call122 rfl rfl rfl rfl (yE (Ji.row) (hr.there.there.there.there.there)) ?_)
      rintro Un SR ⟨rfl,rfl⟩
      refine OT.U hT 2 rfl (.nil (.seq (.cond rfl (fun zH=> ?_) (fun zH=> ?_))))
      .
       have zH:¬(bU n).1=bs:=by simpa using zH
       refine TT.seq (.region (.build hT rfl Tryz.zeroValue159 rfl rfl rfl rfl (.ag hT rfl rfl rfl rfl pl rfl rfl rfl (.inl (Nat.le_refl _)) ?_)))
       refine OT.U hT 1 rfl (.nil (.seq (.ret (.of (rs:=[.cell 2 159,.tmp 3]) [_,_] ([]::hs) rfl (.cell rfl (Ld.af hT rfl hz rfl) (.tmp rfl .nil)) sl ?_))))
       try dsimp only[one]
       exact⟨[],_,CE,8,rfl,rfl,iB.none _ _ _,.bad rfl rfl (fun⟨n0,h0⟩=>by have:=(hn0 n0 h0).2;subst this;exact zH h0.2.symm)⟩
      .
       have zH:(bU n).1=bs:=by simpa using zH
       refine TT.skip (.seq (.seq (.region (.load rfl rfl (Ld.af hT rfl hz hN.four) rfl ?_))))
       refine OT.ag hT rfl rfl rfl rfl pl (by exact hN.four) rfl hN.Kw (.inl (Nat.le_refl _)) ?_
       refine OT.U hT 1 rfl (.nil (.seq (.ret (.of (rs:=[.cell 2 159,.tmp 3]) [_,_] (K::hs) rfl (.cell rfl (Ld.af hT rfl hz hN.four) (.tmp rfl .nil)) sl ?_))))
       try dsimp only[one]
       exact⟨K,_,n,0,rfl,rfl,hN,.ok rfl ⟨⟨fS.1 zG,Tx⟩,zH.symm⟩⟩
end Go.Proofs.YtihpkgmfkbkffaaGreat.Sx
end
section
namespace Go.Proofs.YtihpkgmfkbkffaaGreat.Sx
open Go Go.Sx Go.Pl
variable[au]
end Go.Proofs.YtihpkgmfkbkffaaGreat.Sx
end
section
namespace Go.Proofs.YtihpkgmfkbkffaaGreat.Sx
open Go Go.Sx Go.Pl
variable[au]
end Go.Proofs.YtihpkgmfkbkffaaGreat.Sx
end
section
namespace Go.Proofs.YtihpkgmfkbkffaaGreat.Sx
open Go Go.Sx Go.Pl
variable[au]
set_option maxHeartbeats 1000000 in
set_option maxRecDepth 100000 in
theorem Gr{v:Value}{xs:List Int}{x:Int}{hs:List Chunk}(hr:Row Go.Sx.cM 1 hs v xs)(hl:xs.length<=1073741824):aA Tryz.prog 159 [v,.int .i64 x] hs (fun v' hs'=>v'= .int .i64 (findAt (fun y=>x==y) 0 xs)/\hs=hs'):=by
 refine aA.enter 19 Tryz.func159 rfl Tryz.ntmps159 rfl ?_
 obtain⟨a0,c0,hv⟩:=hr.len
 subst hv
 refine TT.seq (.region (.U hT 1 rfl (.nil (.seq (.seq (.seq (.region (.U hT 3 rfl (.nil (.seq (.block (.loop (ι:=Nat) (fun j=>(j)<=xs.length/\findAt (fun y=>x==y) (j) (xs.drop (j))=findAt (fun y=>x==y) 0 xs) (fun j=>xs.length-(j)) (fun j=>[(0,.slice a0 xs.length c0),(1,.int .i64 x),(7,.int .i64 xs.length),(8,.int .i64 ((j):Nat))]) (fun j=>hs) (0) ?_ (aa.cons rfl (aa.cons rfl (aa.cons rfl (aa.cons rfl (aa.nil _))))) sl ?_))))))))))))
 . exact⟨by omega,rfl⟩
 rintro i ⟨hi,hp⟩
 show TT _ _ _ [(0,.slice a0 xs.length c0),(1,.int .i64 x),(7,.int .i64 xs.length),(8,.int .i64 (i:Nat))] (hs)
 refine TT.seq (.region (.U hT 1 rfl (.nil (.seq (.seq (.cond rfl (fun c9=> ?_) (fun c9=> ?_)))))))
 .
  have c9:=of_decide_eq_true c9
  obtain⟨y,hy⟩:∃y,xs[i]? =some y:=⟨_,List.getElem?_eq_getElem (by omega)⟩
  rw[List.drop_eq_getElem_cons (by omega),show xs[i]'(by omega)=y from by rw[List.getElem?_eq_getElem (by omega)]at hy;exact Option.some.inj hy,findAt]at hp
  refine TT.skip (.seq (.seq (.block (.seq (.region (.U hT 2 rfl (.nil (.seq (.seq (.region (.U hT 3 rfl (.index hT rfl rfl rfl rfl hr (by omega) hy rfl (fun EU nA=> ?_)))))))))))))
  refine OT.load rfl rfl (nA.bL hT rfl rfl) rfl (.U hT 1 rfl (.nil (.seq (.cond rfl (fun fO=> ?_) (fun fO=> ?_)))))
  .
   rw[if_pos fO]at hp
   refine TT.seq (.region (.U hT 2 rfl (.nil (.seq (.ret (.of (rs:=[.tmp 4]) [_] hs rfl (.tmp rfl .nil) sl ?_))))))
   try dsimp only[one]
   exact⟨by rw[<-hp],rfl⟩
  .
   rw[if_neg (by simp only[fO];decide)]at hp
   refine TT.skip (.blk (.seq (.region (.U hT 2 rfl (.nil (.loop (i+1) ?_ ?_ (aa.cons rfl (aa.cons rfl (aa.cons rfl (aa.aM rfl (by(try dsimp only);exact(int_eq (by rw[wrap_i64 (by omega) (by omega)];omega))) (aa.nil _))))) sl))))))
   . exact⟨by omega,hp⟩
   . omega
 .
  have c9:=of_decide_eq_false c9
  rw[List.drop_eq_nil_of_le (by omega),findAt]at hp
  refine TT.exit (.seq (.loop (.here (.seq (.seq (.region (.U hT 1 rfl (.nil (.seq (.ret (.of (rs:=[.tmp 4]) [_] hs rfl (.tmp rfl .nil) sl ?_)))))))))))
  try dsimp only[one]
  exact⟨by rw[<-hp],rfl⟩
set_option maxHeartbeats 1000000 in
set_option maxRecDepth 100000 in
theorem y_{v:Value}{xs:List Int}{x:Int}{hs:List Chunk}(hr:Row Go.Sx.cM 1 hs v xs)(hl:xs.length<=1073741824):aA Tryz.prog 119 [v,.int .i64 x] hs (fun v' hs'=>v'= .bool (decide (x∈xs))/\hs=hs'):=by
 refine aA.enter 9 Tryz.func119 rfl Tryz.ntmps119 rfl ?_
 refine TT.seq (.region (.U hT 1 rfl (.nil (.seq (.seq (.region (.U hT 2 rfl (.call Tryz.call159 rfl rfl rfl rfl (Gr hr hl) ?_))))))))
 rintro CV tD ⟨rfl,rfl⟩
 refine OT.U hT 2 rfl (.nil (.seq (.ret (.of (rs:=[.tmp 4]) [_] hs rfl (.tmp rfl .nil) sl ?_))))
 try dsimp only[one]
 exact⟨congrArg Value.bool (decide_eq_decide.2 (by rw[ge_iff_le,jt];simp)),rfl⟩
set_option maxHeartbeats 1000000 in
set_option maxRecDepth 100000 in
theorem OU{s:az}{b:Nat}{nm:ByteArray}{t:Nat}{fr:Nat×Nat}{hs:List Chunk}(hb:Has hs b (blk [.string nm] t fr)):aA Tryz.prog 79 [.agg ⟨aq s⟩,.pointer (some ⟨b,0,none⟩)] hs (fun v' hs'=>v'= .bool (named nm s)/\hs=hs'):=by
 refine aA.enter 8 Tryz.func79 rfl Tryz.ntmps79 rfl ?_
 refine TT.seq (.region (.box rfl rfl rfl (fun b_2=> ?_)))
 refine OT.U hT 1 rfl (.nil (.seq (.seq (.region (.U hT 1 rfl (.load rfl rfl (Ld.one hT rfl hz rfl) rfl ?_))))))
 refine OT.load rfl rfl (Ld.one hT rfl hb.there rfl) rfl (.U hT 2 rfl (.nil (.seq (.ret (.of (rs:=[.tmp 3]) [_] hs rfl (.tmp rfl .nil) sl ?_)))))
 try dsimp only[one]
 exact⟨rfl,rfl⟩
set_option maxHeartbeats 1000000 in
set_option maxRecDepth 100000 in
theorem wN{v:Value}{xs:List az}{b:Nat}{nm:ByteArray}{t:Nat}{fr:Nat×Nat}{hs:List Chunk}(hr:Row aq 35 hs v xs)(hl:xs.length<=1073741824)(hb:Has hs b (blk [.string nm] t fr)):aA Tryz.prog 78 [v,.func (.func 79) ⟨[]⟩ ⟨[.pointer (some ⟨b,0,none⟩)]⟩] hs (fun v' hs'=>v'= .int .i64 (findAt (named nm) 0 xs)/\hs=hs'):=by
 refine aA.enter 19 Tryz.func78 rfl Tryz.ntmps78 rfl ?_
 obtain⟨a0,c0,hv⟩:=hr.len
 subst hv
 refine TT.seq (.region (.U hT 1 rfl (.nil (.seq (.seq (.seq (.region (.U hT 3 rfl (.nil (.seq (.block (.loop (ι:=Nat) (fun j=>(j)<=xs.length/\findAt (named nm) (j) (xs.drop (j))=findAt (named nm) 0 xs) (fun j=>xs.length-(j)) (fun j=>[(0,.slice a0 xs.length c0),(1,.func (.func 79) ⟨[]⟩ ⟨[.pointer (some ⟨b,0,none⟩)]⟩),(7,.int .i64 xs.length),(8,.int .i64 ((j):Nat))]) (fun j=>hs) (0) ?_ (aa.cons rfl (aa.cons rfl (aa.cons rfl (aa.cons rfl (aa.nil _))))) sl ?_))))))))))))
 . exact⟨by omega,rfl⟩
 rintro i ⟨hi,hp⟩
 show TT _ _ _ [(0,.slice a0 xs.length c0),(1,.func (.func 79) ⟨[]⟩ ⟨[.pointer (some ⟨b,0,none⟩)]⟩),(7,.int .i64 xs.length),(8,.int .i64 (i:Nat))] (hs)
 refine TT.seq (.region (.U hT 1 rfl (.nil (.seq (.seq (.cond rfl (fun c9=> ?_) (fun c9=> ?_)))))))
 .
  have c9:=of_decide_eq_true c9
  obtain⟨y,hy⟩:∃y,xs[i]? =some y:=⟨_,List.getElem?_eq_getElem (by omega)⟩
  rw[List.drop_eq_getElem_cons (by omega),show xs[i]'(by omega)=y from by rw[List.getElem?_eq_getElem (by omega)]at hy;exact Option.some.inj hy,findAt]at hp
  refine TT.skip (.seq (.seq (.block (.seq (.region (.U hT 2 rfl (.nil (.seq (.seq (.region (.U hT 3 rfl (.index hT rfl rfl rfl rfl hr (by omega) hy rfl (fun EU nA=> ?_)))))))))))))
  refine OT.load rfl rfl (nA.cO hT rfl) rfl ?_
  refine OT.xA Tryz.call79 rfl rfl rfl rfl (OU hb) ?_
  rintro iT eY ⟨rfl,rfl⟩
  refine OT.nil (.seq (.cond rfl (fun fO=> ?_) (fun fO=> ?_)))
  .
   rw[if_pos fO]at hp
   refine TT.seq (.region (.U hT 2 rfl (.nil (.seq (.ret (.of (rs:=[.tmp 4]) [_] hs rfl (.tmp rfl .nil) sl ?_))))))
   try dsimp only[one]
   exact⟨by rw[<-hp],rfl⟩
  .
   rw[if_neg (by simp only[fO];decide)]at hp
   refine TT.skip (.blk (.seq (.region (.U hT 2 rfl (.nil (.loop (i+1) ?_ ?_ (aa.cons rfl (aa.cons rfl (aa.cons rfl (aa.aM rfl (by(try dsimp only);exact(int_eq (by rw[wrap_i64 (by omega) (by omega)];omega))) (aa.nil _))))) sl))))))
   . exact⟨by omega,hp⟩
   . omega
 .
  have c9:=of_decide_eq_false c9
  rw[List.drop_eq_nil_of_le (by omega),findAt]at hp
  refine TT.exit (.seq (.loop (.here (.seq (.seq (.region (.U hT 1 rfl (.nil (.seq (.ret (.of (rs:=[.tmp 4]) [_] hs rfl (.tmp rfl .nil) sl ?_)))))))))))
  try dsimp only[one]
  exact⟨by rw[<-hp],rfl⟩
set_option maxHeartbeats 1000000 in
set_option maxRecDepth 100000 in
theorem lH{next:Int}{v:Value}{xs:List az}{nm:ByteArray}{hs:List Chunk}(hr:Row aq 35 hs v xs)(hl:xs.length<=1073741824):aA Tryz.prog 45 [.agg ⟨[.int .i64 next,v]⟩,.string nm] hs (fun v' hs'=>v'= .int .i64 (findAt (named nm) 0 xs)/\hs=hs'):=by
 refine aA.enter 9 Tryz.func45 rfl Tryz.ntmps45 rfl ?_
 obtain⟨a0,c0,hv⟩:=hr.len
 subst hv
 refine TT.seq (.region (.box rfl rfl rfl (fun b_2=> ?_)))
 refine OT.box rfl rfl rfl (fun pG=> ?_)
 refine OT.U hT 1 rfl (.nil (.seq (.seq (.region (.U hT 1 rfl (.load rfl rfl (Ld.slc hT rfl hz rfl) rfl ?_))))))
 refine OT.U hT 1 rfl (.call Tryz.call78 rfl rfl rfl rfl (wN hr.there.there hl Has.one) ?_)
 rintro Ed rJ ⟨rfl,rfl⟩
 refine OT.U hT 1 rfl (.nil (.seq (.ret (.of (rs:=[.tmp 4]) [_] hs rfl (.tmp rfl .nil) sl ?_))))
 try dsimp only[one]
 exact⟨rfl,rfl⟩
set_option maxHeartbeats 4000000 in
set_option maxRecDepth 100000 in
theorem IL{next:Int}{v:Value}{xs:List az}{hs:List Chunk}(hr:Row aq 35 hs v xs)(hl:xs.length<=1073741824):aA Tryz.prog 75 [.agg ⟨[.int .i64 next,v]⟩] hs (fun v' hs'=>v'= .bool (gV next xs)/\hs=hs'):=by
 refine aA.enter 94 Tryz.func75 rfl Tryz.ntmps75 rfl ?_
 obtain⟨a0,c0,hv⟩:=hr.len
 subst hv
 refine TT.seq (.region (.box rfl rfl rfl (fun b_1=> ?_)))
 refine OT.U hT 1 rfl (.nil (.seq (.seq (.seq (.region (.U hT 1 rfl (.load rfl rfl (Ld.one hT rfl hz rfl) rfl ?_)))))))
 refine OT.U hT 2 rfl (.split 12 rfl (fun Ek=> ?_) (fun Ek=> ?_))
 .
  have Ek:=of_decide_eq_true Ek
  refine OT.U hT 10 rfl (.nil (.seq (.cond_true rfl (.seq (.region (.U hT 1 rfl (.nil (.seq (.ret (.of (rs:=[.tmp 2]) [_] hs rfl (.tmp rfl .nil) sl ?_))))))))))
  try dsimp only[one]
  exact⟨by unfold gV;rw[if_pos (by omega)],rfl⟩
 .
  have Ek:=of_decide_eq_false Ek
  refine OT.U hT 1 rfl (.load rfl rfl (Ld.one hT rfl hz rfl) rfl ?_)
  refine OT.U hT 3 rfl (.split 17 rfl (fun M4=> ?_) (fun M4=> ?_))
  .
   have M4:=of_decide_eq_true M4
   refine OT.U hT 5 rfl (.nil (.seq (.cond_true rfl (.seq (.region (.U hT 1 rfl (.nil (.seq (.ret (.of (rs:=[.tmp 2]) [_] hs rfl (.tmp rfl .nil) sl ?_))))))))))
   try dsimp only[one]
   exact⟨by unfold gV;rw[if_pos (by omega)],rfl⟩
  .
   have M4:=of_decide_eq_false M4
   refine OT.U hT 1 rfl (.load rfl rfl (Ld.slc hT rfl hz rfl) rfl ?_)
   refine OT.U hT 3 rfl (.nil (.seq (.cond rfl (fun jy=> ?_) (fun jy=> ?_))))
   .
    have jy:=of_decide_eq_true jy
    refine TT.seq (.region (.U hT 1 rfl (.nil (.seq (.ret (.of (rs:=[.tmp 2]) [_] hs rfl (.tmp rfl .nil) sl ?_))))))
    try dsimp only[one]
    exact⟨by unfold gV;rw[if_pos (by omega)],rfl⟩
   .
    have jy:=of_decide_eq_false jy
    have hp:eU next xs 0 0 [] xs=gV next xs:=by unfold gV;rw[if_neg (by omega)]
    refine TT.skip (.seq (.seq (.region (.U hT 1 rfl (.nil (.seq (.seq (.region (.U hT 1 rfl (.nil (.seq (.seq (.seq (.region (.U hT 1 rfl (.load rfl rfl (Ld.slc hT rfl hz rfl) rfl ?_))))))))))))))))
    refine OT.U hT 2 rfl (.nil (.seq (.block (.jo (.loop (ι:=Nat×Int×(List Int)×Value×Chunk) (fun j=>(j.1)<=xs.length/\Own Go.Sx.cM 1 3 (j.2.2.2.1) (j.2.2.1) (j.2.2.2.2)/\(j.2.2.1).length<=32*(j.1)/\eU next xs (j.1) (j.2.1) (j.2.2.1) (xs.drop (j.1))=gV next xs) (fun j=>xs.length-(j.1)) (fun j=>[(1,.pointer (some ⟨b_1,0,none⟩)),(3,.int .i64 (j.2.1)),(4,(j.2.2.2.1)),(24,.slice a0 xs.length c0),(25,.int .i64 xs.length),(26,.int .i64 ((j.1):Nat))]) (fun j=>[(b_1,blk [.int .i64 next,.slice a0 xs.length c0] 94 (0,0))]::(j.2.2.2.2)::hs) (0,0,[],.slice none 0 0,[]) ?_ (aa.cons rfl (aa.cons rfl (aa.cons rfl (aa.cons rfl (aa.cons rfl (aa.cons rfl (aa.nil _))))))) sl ?_)))))
    . dsimp only
      exact⟨by omega,Own.nil,by simp,hp⟩
    rintro⟨i,last,seen,w,K⟩ hI
    dsimp only at hI
    obtain⟨hi,hO,Qv,hp⟩:=hI
    show TT _ _ _ [(1,.pointer (some ⟨b_1,0,none⟩)),(3,.int .i64 last),(4,w),(24,.slice a0 xs.length c0),(25,.int .i64 xs.length),(26,.int .i64 (i:Nat))] ([(b_1,blk [.int .i64 next,.slice a0 xs.length c0] 94 (0,0))]::K::hs)
    refine TT.seq (.region (.U hT 1 rfl (.nil (.seq (.seq (.cond rfl (fun nV=> ?_) (fun nV=> ?_)))))))
    .
     have nV:=of_decide_eq_true nV
     obtain⟨s,hy⟩:∃y,xs[i]? =some y:=⟨_,List.getElem?_eq_getElem (by omega)⟩
     rw[List.drop_eq_getElem_cons (by omega),show xs[i]'(by omega)=s from by rw[List.getElem?_eq_getElem (by omega)]at hy;exact Option.some.inj hy,eU]at hp
     have fG:=hr.1 s (List.mem_of_getElem? hy)
     have zw:=mQ fG
     refine TT.skip (.seq (.seq (.block (.seq (.region (.U hT 1 rfl (.index hT rfl rfl rfl rfl hr.there.there (by omega) hy rfl (fun JJ r5=> ?_))))))))
     refine OT.load rfl rfl (r5.cO hT rfl) rfl (.alloc Tryz.zeroValue83 rfl rfl (fun eG=> ?_))
     refine OT.U hT 1 rfl (.ag hT rfl rfl rfl rfl pl (by exact fG) rfl (jR s) (.inl (Nat.le_refl _)) ?_)
     refine OT.nil (.seq (.seq (.seq (.draw ([(eG,blk (aq s) 83 (0,0))]::[(b_1,blk [.int .i64 next,.slice a0 xs.length c0] 94 (0,0))]::K::hs) mixed (.takes (fuel:=27) hT [0] kr kr rfl (.take (fuel:=26) hT 1 rfl rfl kr kr kr rfl (.load rfl (Ld.one hT rfl hz rfl)) rfl ?_))))))
     refine AT.op (fuel:=25) 2 kr rfl sl (.call Tryz.call73 rfl rfl rfl rfl (yC) ?_)
     rintro Sa OV ⟨rfl,rfl⟩
     refine OT.nil (.any (.takes (fuel:=23) hT [3,4] kr kr rfl (.split 35 rfl (fun p5=> ?_) (fun p5=> ?_))))
     .
      have p5:ej s.name=false:=by simpa using p5
      refine AT.takes (fuel:=0) hT [5,6,7,8,9,10,11,12,13,14,15,16,17,18,19,20,21,22,23,24,25,26,27] kr kr rfl (.done kr sl (.seq (.cond_true rfl (.seq (.region (.U hT 1 rfl (.nil (.seq (.ret (.of (rs:=[.tmp 2]) [_] hs rfl (.tmp rfl .nil) sl ?_))))))))))
      try dsimp only[one]
      rw[if_pos (.inl p5)]at hp
      exact⟨by rw[<-hp],rfl⟩
     .
      have p5:ej s.name=true:=by simpa using p5
      refine AT.takes (fuel:=20) hT [5,7,10] kr kr rfl (.take (fuel:=19) hT 6 rfl rfl kr kr kr rfl (.load rfl (Ld.slc hT rfl hz rfl)) rfl ?_)
      refine AT.take (fuel:=18) hT 11 rfl rfl kr kr kr rfl (.load rfl (Ld.one hT rfl hz rfl)) rfl ?_
      refine AT.op (fuel:=17) 8 kr rfl sl (.slice 0 i hT rfl rfl rfl rfl rfl hr.there.there.there (.inl ⟨rfl,rfl⟩) (.inr ⟨_,rfl⟩) (by omega) (by omega) rfl (fun vu xK=> ?_))
      obtain⟨Sb,Sc,Sd⟩:=xK.len
      have WM:((xs.take i).drop 0).length=i:=by simp;omega
      subst Sd
      refine OT.nil (.any (.take (fuel:=16) hT 9 rfl rfl kr kr kr rfl (gB (cs:=[.int .i64 0,.slice Sb ((xs.take i).drop 0).length Sc]) hT rfl Tryz.zeroValue94 rfl rfl) rfl (.op (fuel:=15) 12 kr rfl sl (.call Tryz.call45 rfl rfl rfl rfl (lH xK (by omega)) ?_))))
      rintro Hy EZ ⟨rfl,rfl⟩
      rw[List.drop_zero]
      refine OT.nil (.any (.takes (fuel:=12) hT [13,14,15] kr kr rfl (.split 46 rfl (fun M5=> ?_) (fun M5=> ?_))))
      .
       have M5:=of_decide_eq_true M5
       refine AT.takes (fuel:=0) hT [16,17,18,19,20,21,22,23,24,25,26,27] kr kr rfl (.done kr sl (.seq (.cond_true rfl (.seq (.region (.U hT 1 rfl (.nil (.seq (.ret (.of (rs:=[.tmp 2]) [_] hs rfl (.tmp rfl .nil) sl ?_))))))))))
       try dsimp only[one]
       rw[if_pos (by omega)]at hp
       exact⟨by rw[<-hp],rfl⟩
      .
       have M5:=of_decide_eq_false M5
       refine AT.takes (fuel:=10) hT [16,18] kr kr rfl (.take (fuel:=9) hT 17 rfl rfl kr kr kr rfl (.load rfl (Ld.one hT rfl hz rfl)) rfl ?_)
       refine AT.takes (fuel:=6) hT [19,20,21] kr kr rfl (.split 52 rfl (fun M6=> ?_) (fun M6=> ?_))
       .
        have M6:=of_decide_eq_true M6
        refine AT.takes (fuel:=0) hT [22,23,24,25,26,27] kr kr rfl (.done kr sl (.seq (.cond_true rfl (.seq (.region (.U hT 1 rfl (.nil (.seq (.ret (.of (rs:=[.tmp 2]) [_] hs rfl (.tmp rfl .nil) sl ?_))))))))))
        try dsimp only[one]
        rw[if_pos (by omega)]at hp
        exact⟨by rw[<-hp],rfl⟩
       .
        have M6:=of_decide_eq_false M6
        refine AT.takes (fuel:=4) hT [22,24] kr kr rfl (.take (fuel:=3) hT 23 rfl rfl kr kr kr rfl (.load rfl (Ld.one hT rfl hz rfl)) rfl ?_)
        refine AT.take (fuel:=2) hT 25 rfl rfl kr kr kr rfl (.load rfl (Ld.one hT rfl hz rfl)) rfl ?_
        refine AT.takes (fuel:=0) hT [26,27] kr kr rfl (.done kr sl (.seq (.cond rfl (fun Eh=> ?_) (fun Eh=> ?_))))
        .
         have Eh:=of_decide_eq_true Eh
         rw[if_pos (by omega)]at hp
         refine TT.seq (.region (.U hT 1 rfl (.nil (.seq (.ret (.of (rs:=[.tmp 2]) [_] hs rfl (.tmp rfl .nil) sl ?_))))))
         try dsimp only[one]
         exact⟨by rw[<-hp],rfl⟩
        .
         have Eh:=of_decide_eq_false Eh
         rw[if_neg (by rw[p5];simp only[Bool.true_eq_false,false_or];omega)]at hp
         refine TT.skip (.seq (.seq (.region (.U hT 1 rfl (.load rfl rfl (Ld.one hT rfl hz rfl) rfl ?_)))))
         refine OT.U hT 1 rfl (.nil (.seq (.seq (.region (.U hT 1 rfl (.load rfl rfl (Ld.arr hT rfl Has.one (FL fG) (by simp[zw])) rfl (.U hT 1 rfl (.nil (.seq (.block (.loop (ι:=Nat×(List Int)×Value×Chunk) (fun j=>(j.1)<=32/\Own Go.Sx.cM 1 3 (j.2.2.1) (j.2.1) (j.2.2.2)/\(j.2.1).length<=32*i+(j.1)/\(match kM s.inv (j.1) (s.map.drop (j.1)) (j.2.1)with|none=>false|some seen'=>eU next xs (i+1) s.id seen' (xs.drop (i+1)))=gV next xs) (fun j=>32-(j.1)) (fun j=>[(1,.pointer (some ⟨b_1,0,none⟩)),(3,.int .i64 s.id),(4,(j.2.2.1)),(6,.pointer (some ⟨eG,0,none⟩)),(24,.slice a0 xs.length c0),(25,.int .i64 xs.length),(26,.int .i64 (i:Nat)),(62,.agg ⟨s.map.map (Value.int .i64)⟩),(63,.int .i64 ((j.1):Nat))]) (fun j=>[(eG,blk (aq s) 83 (0,0))]::[(b_1,blk [.int .i64 next,.slice a0 xs.length c0] 94 (0,0))]::(j.2.2.2)::hs) (0,seen,w,K) ?_ (aa.cons rfl (aa.cons rfl (aa.cons rfl (aa.cons rfl (aa.cons rfl (aa.cons rfl (aa.cons rfl (aa.cons rfl (aa.cons rfl (aa.nil _)))))))))) sl ?_)))))))))))
         . dsimp only
           exact⟨by omega,hO,by omega,hp⟩
         rintro⟨no,E0,w2,K2⟩ hI
         dsimp only at hI
         obtain⟨hno,GI,WN,hp⟩:=hI
         show TT _ _ _ [(1,.pointer (some ⟨b_1,0,none⟩)),(3,.int .i64 s.id),(4,w2),(6,.pointer (some ⟨eG,0,none⟩)),(24,.slice a0 xs.length c0),(25,.int .i64 xs.length),(26,.int .i64 (i:Nat)),(62,.agg ⟨s.map.map (Value.int .i64)⟩),(63,.int .i64 (no:Nat))] ([(eG,blk (aq s) 83 (0,0))]::[(b_1,blk [.int .i64 next,.slice a0 xs.length c0] 94 (0,0))]::K2::hs)
         refine TT.seq (.region (.U hT 1 rfl (.nil (.seq (.seq (.cond rfl (fun ud=> ?_) (fun ud=> ?_)))))))
         .
          have ud:=of_decide_eq_true ud
          obtain⟨at_,hat⟩:∃y,s.map[no]? =some y:=⟨_,List.getElem?_eq_getElem (by omega)⟩
          rw[List.drop_eq_getElem_cons (by omega),show s.map[no]'(by omega)=at_ from by rw[List.getElem?_eq_getElem (by omega)]at hat;exact Option.some.inj hat,kM]at hp
          refine TT.skip (.seq (.seq (.block (.seq (.region (.U hT 1 rfl (.C2 hT rfl rfl rfl rfl rfl (by omega) (by simp[zw]) (by rw[Int.toNat_natCast,List.getElem?_map,hat];rfl) rfl ?_)))))))
          refine OT.U hT 2 rfl (.nil (.seq (.seq (.seq (.region (.U hT 2 rfl (.nil (.seq (.cond rfl (fun qZ=> ?_) (fun qZ=> ?_))))))))))
          .
           have qZ:at_=0:=by simpa using qZ
           rw[if_pos qZ]at hp
           refine TT.exit (.seq (.here (.seq (.region (.U hT 2 rfl (.nil (.loop (no+1,E0,w2,K2) ?_ ?_ (aa.cons rfl (aa.cons rfl (aa.cons rfl (aa.cons rfl (aa.cons rfl (aa.cons rfl (aa.cons rfl (aa.cons rfl (aa.aM rfl (by(try dsimp only);exact(int_eq (by rw[wrap_i64 (by omega) (by omega)];omega))) (aa.nil _)))))))))) sl)))))))
           . dsimp only
             exact⟨by omega,GI,by omega,hp⟩
           . dsimp only
             omega
          .
           have qZ:¬at_=0:=by simpa using qZ
           rw[if_neg qZ]at hp
           refine TT.skip (.seq (.seq (.seq (.region (.U hT 3 rfl (.split 71 rfl (fun M7=> ?_) (fun M7=> ?_)))))))
           .
            have M7:=of_decide_eq_true M7
            refine OT.U hT 16 rfl (.nil (.seq (.cond_true rfl (.seq (.region (.U hT 1 rfl (.nil (.seq (.ret (.of (rs:=[.tmp 2]) [_] hs rfl (.tmp rfl .nil) sl ?_))))))))))
            try dsimp only[one]
            rw[if_pos (by omega)]at hp
            exact⟨by rw[<-hp],rfl⟩
           .
            have M7:=of_decide_eq_false M7
            refine OT.U hT 4 rfl (.split 75 rfl (fun M8=> ?_) (fun M8=> ?_))
            .
             have M8:=of_decide_eq_true M8
             refine OT.U hT 12 rfl (.nil (.seq (.cond_true rfl (.seq (.region (.U hT 1 rfl (.nil (.seq (.ret (.of (rs:=[.tmp 2]) [_] hs rfl (.tmp rfl .nil) sl ?_))))))))))
             try dsimp only[one]
             rw[if_pos (by omega)]at hp
             exact⟨by rw[<-hp],rfl⟩
            .
             have M8:=of_decide_eq_false M8
             refine OT.U hT 4 rfl (.split 79 rfl (fun vJ=> ?_) (fun vJ=> ?_))
             .
              have vJ:(no:Int)=0:=by simpa using vJ
              refine OT.U hT 8 rfl (.nil (.seq (.cond_true rfl (.seq (.region (.U hT 1 rfl (.nil (.seq (.ret (.of (rs:=[.tmp 2]) [_] hs rfl (.tmp rfl .nil) sl ?_))))))))))
              try dsimp only[one]
              rw[if_pos (by omega)]at hp
              exact⟨by rw[<-hp],rfl⟩
             .
              have vJ:¬(no:Int)=0:=by simpa using vJ
              refine OT.U hT 1 rfl (.load rfl rfl (Ld.one hT rfl hz rfl) rfl ?_)
              refine OT.U hT 2 rfl (.split 83 rfl (fun QM=> ?_) (fun QM=> ?_))
              .
               refine OT.U hT 4 rfl (.nil (.seq (.cond_true rfl (.seq (.region (.U hT 1 rfl (.nil (.seq (.ret (.of (rs:=[.tmp 2]) [_] hs rfl (.tmp rfl .nil) sl ?_))))))))))
               try dsimp only[one]
               rw[if_pos (.inr (.inr (.inr (.inl QM))))]at hp
               exact⟨by rw[<-hp],rfl⟩
              .
               refine OT.U hT 2 rfl (.call Tryz.call119 rfl rfl rfl rfl (y_ (GI.row (hs:=hs)).there.there (by omega)) ?_)
               rintro rK k9 ⟨rfl,rfl⟩
               refine OT.U hT 1 rfl (.nil (.seq (.cond rfl (fun J7=> ?_) (fun J7=> ?_))))
               .
                have J7:=of_decide_eq_true J7
                rw[if_pos (.inr (.inr (.inr (.inr J7))))]at hp
                dsimp only at hp
                refine TT.seq (.region (.U hT 1 rfl (.nil (.seq (.ret (.of (rs:=[.tmp 2]) [_] hs rfl (.tmp rfl .nil) sl ?_))))))
                try dsimp only[one]
                exact⟨by rw[<-hp],rfl⟩
               .
                have J7:=of_decide_eq_false J7
                rw[if_neg (by rw[QM];simp only[Bool.false_eq_true,J7,or_false];omega)]at hp
                refine TT.skip (.seq (.region (.U hT 2 rfl ?_)))
                refine OT.buildSlice (enc:=Go.Sx.cM) (xs:=[at_]) (gQ:=[.tmp 89]) jw rfl rfl rfl rfl rfl (by simp[Value.cells]) (fun _ _=>rfl) rfl (by decide) rfl (fun Se WO OW=> ?_)
                refine OT.append hT jw rfl rfl rfl rfl pl GI OW.row rfl (by simp only[List.length_cons,List.length_nil];omega) rfl (fun KN Sf OX=> ?_)
                refine OT.U hT 1 rfl (.nil (.blk (.seq (.region (.U hT 2 rfl (.nil (.loop (no+1,E0++[at_],KN,Sf) ?_ ?_ (aa.cons rfl (aa.cons rfl (aa.cons rfl (aa.cons rfl (aa.cons rfl (aa.cons rfl (aa.cons rfl (aa.cons rfl (aa.aM rfl (by(try dsimp only);exact(int_eq (by rw[wrap_i64 (by omega) (by omega)];omega))) (aa.nil _)))))))))) sl)))))))
                . dsimp only
                  exact⟨by omega,OX,by rw[List.length_append];simp only[List.length_cons,List.length_nil];omega,hp⟩
                . dsimp only
                  omega
         .
          have ud:=of_decide_eq_false ud
          rw[List.drop_eq_nil_of_le (by omega),kM]at hp
          dsimp only at hp
          refine TT.exit (.seq (.loop (.here (.blk (.seq (.region (.U hT 2 rfl (.nil (.loop (i+1,s.id,E0,w2,K2) ?_ ?_ (aa.cons rfl (aa.cons rfl (aa.cons rfl (aa.cons rfl (aa.cons rfl (aa.aM rfl (by(try dsimp only);exact(int_eq (by rw[wrap_i64 (by omega) (by omega)];omega))) (aa.nil _))))))) sl)))))))))
          . dsimp only
            exact⟨by omega,GI,by omega,hp⟩
          . dsimp only
            omega
    .
     have nV:=of_decide_eq_false nV
     rw[List.drop_eq_nil_of_le (by omega),eU]at hp
     refine TT.exit (.seq (.loop (.here (.seq (.seq (.region (.U hT 1 rfl (.nil (.seq (.ret (.of (rs:=[.tmp 2]) [_] hs rfl (.tmp rfl .nil) sl ?_)))))))))))
     try dsimp only[one]
     exact⟨by rw[<-hp],rfl⟩
end Go.Proofs.YtihpkgmfkbkffaaGreat.Sx
end
section
namespace Go.Proofs.YtihpkgmfkbkffaaGreat.Sx
open Go Go.Sx Go.Pl
variable[au]
end Go.Proofs.YtihpkgmfkbkffaaGreat.Sx
end
section
namespace Go.Proofs.YtihpkgmfkbkffaaGreat.Sx
open Go Go.Sx Go.Pl
variable[au]
set_option maxHeartbeats 4000000 in
set_option maxRecDepth 100000 in
theorem nO{next:Int}{v:Value}{xs:List az}{hs:List Chunk}(hr:Row aq 35 hs v xs)(hl:xs.length<=1073741824):aA Tryz.prog 44 [.agg ⟨[.int .i64 next,v]⟩] hs (fun v' hs'=>∃w H',v'= .tuple ⟨[w,.int .i64 (encode next xs).2]⟩/\hs'=H'::hs/\Own Go.Sx.aB 1 5 w (encode next xs).1 H'):=by
 refine aA.enter 60 Tryz.func44 rfl Tryz.ntmps44 rfl ?_
 obtain⟨a0,c0,hv⟩:=hr.len
 subst hv
 refine TT.seq (.region (.box rfl rfl rfl (fun b_1=> ?_)))
 refine OT.U hT 2 rfl (.nil (.seq (.seq (.seq (.region (.load rfl rfl (Ld.af hT rfl hz rfl) rfl ?_))))))
 refine OT.call Tryz.call75 rfl rfl rfl rfl (IL hr.there hl) ?_
 rintro nZ jF ⟨rfl,rfl⟩
 refine OT.U hT 1 rfl (.nil (.seq (.cond rfl (fun pH=> ?_) (fun pH=> ?_))))
 .
  have pH:gV next xs=false:=by simpa using pH
  refine TT.seq (.region (.U hT 2 rfl (.nil (.seq (.ret (.of (rs:=[.tmp 2,.tmp 3]) [_,_] ([]::hs) rfl (.tmp rfl (.tmp rfl .nil)) sl ?_))))))
  try dsimp only[one]
  have e:encode next xs=([],1):=by unfold encode;rw[if_neg (by rw[pH];decide)]
  rw[e]
  exact⟨_,[],rfl,rfl,Own.nil⟩
 .
  have hmay:gV next xs=true:=by simpa using pH
  obtain⟨hb0,tj,GS,PO⟩:=rX hmay
  refine TT.skip (.seq (.seq (.draw ([(b_1,blk [.int .i64 next,.slice a0 xs.length c0] 94 (0,0))]::hs) mixed (.takes (fuel:=6) hT [0,3] kr kr rfl (.take (fuel:=5) hT 1 rfl rfl kr kr kr rfl (.load rfl (Ld.one hT rfl hz rfl)) rfl ?_)))))
  refine AT.take (fuel:=4) hT 4 rfl rfl kr kr kr rfl (.load rfl (Ld.slc hT rfl hz rfl)) rfl ?_
  refine AT.takes (fuel:=3) hT [5] kr kr rfl (.op (fuel:=2) 2 kr rfl sl (.call Tryz.call76 rfl rfl rfl rfl (aA.jo (ia Own.nil (by omega) (by omega) (by simp))) ?_))
  rintro CL ur ⟨XU,rfl,Sg⟩
  refine OT.nil (.any (.op (fuel:=1) 6 kr rfl sl (.call Tryz.call76 rfl rfl rfl rfl (aA.pull pl (ia Sg (by omega) (by omega) (by have:=dY (n:=next) (by omega) (by omega);rw[List.nil_append];omega))) ?_)))
  rintro EB ET ⟨VQ,rfl,Sh⟩
  refine OT.nil (.any (.takes (fuel:=0) hT [7] kr kr rfl (.done kr sl (.seq (.seq (.seq (.region (.U hT 1 rfl (.load rfl rfl (Ld.slc hT rfl hz rfl) rfl ?_)))))))))
  refine OT.U hT 2 rfl (.nil (.seq (.block (.loop (ι:=Nat×Value×Chunk) (fun j=>(j.1)<=xs.length/\Own Go.Sx.aB 1 5 (j.2.1) (iA next xs (j.1)) (j.2.2)) (fun j=>xs.length-(j.1)) (fun j=>[(1,.pointer (some ⟨b_1,0,none⟩)),(20,.slice a0 xs.length c0),(21,.int .i64 xs.length),(22,.int .i64 ((j.1):Nat)),(4,(j.2.1))]) (fun j=>[(b_1,blk [.int .i64 next,.slice a0 xs.length c0] 94 (0,0))]::(j.2.2)::hs) (0,EB,VQ) ?_ (aa.cons rfl (aa.cons rfl (aa.cons rfl (aa.cons rfl (aa.cons rfl (aa.nil _)))))) sl ?_))))
  . dsimp only
    exact⟨by omega,by unfold iA;simpa using Sh⟩
  rintro⟨i,w,K⟩ hI
  dsimp only at hI
  obtain⟨hi,hO⟩:=hI
  show TT _ _ _ [(1,.pointer (some ⟨b_1,0,none⟩)),(20,.slice a0 xs.length c0),(21,.int .i64 xs.length),(22,.int .i64 (i:Nat)),(4,w)] ([(b_1,blk [.int .i64 next,.slice a0 xs.length c0] 94 (0,0))]::K::hs)
  obtain⟨hb0,tj,GS,PO⟩:=rX hmay
  have XV:=wH hmay hr.1 i
  refine TT.seq (.region (.U hT 1 rfl (.nil (.seq (.seq (.cond rfl (fun nk=> ?_) (fun nk=> ?_)))))))
  .
   have nk:=of_decide_eq_true nk
   obtain⟨s,hy⟩:=nth (l:=xs) (i:=i) (by omega)
   have fG:=hr.1 s (List.mem_of_getElem? hy)
   have zw:=mQ fG
   obtain⟨Ty,WQ,WR⟩:=PO s (List.mem_of_getElem? hy)
   have Ty:=(p9 _).1 Ty
   have hsz:s.name.data.toList.length=s.name.size:=Array.length_toList
   have Mv:(aI s.name).length<=18:=by
    have:=dY (n:=s.name.size) (by omega) (by omega)
    unfold aI;simp only[List.length_append];omega
   have CT:(put s.id).length<=10:=dY (by omega) (by omega)
   refine TT.skip (.seq (.seq (.block (.seq (.region (.index hT rfl rfl rfl rfl hr.there.there (by omega) hy rfl (fun JF r4=> ?_)))))))
   refine OT.load rfl rfl (r4.cO hT rfl) rfl (.alloc Tryz.zeroValue83 rfl rfl (fun eG=> ?_))
   refine OT.ag hT rfl rfl rfl rfl pl (by exact fG) rfl (jR s) (.inl (Nat.le_refl _)) ?_
   refine OT.nil (.seq (.seq (.draw ([(eG,blk (aq s) 83 (0,0))]::[(b_1,blk [.int .i64 next,.slice a0 xs.length c0] 94 (0,0))]::hs) mixed (.takes (fuel:=5) hT [0,1,4] kr kr rfl (.take (fuel:=4) hT 2 rfl rfl kr kr kr rfl (.load rfl (Ld.one hT rfl hz rfl)) rfl ?_)))))
   refine AT.take (fuel:=3) hT 5 rfl rfl kr kr kr rfl (.load rfl (Ld.one hT rfl hz rfl)) rfl ?_
   refine AT.op (fuel:=2) 3 kr rfl sl (.call Tryz.call77 rfl rfl rfl rfl (aA.pull pl (ji hO (by omega) (by omega))) ?_)
   rintro vv qt ⟨XW,rfl,Si⟩
   refine OT.nil (.any (.op (fuel:=1) 6 kr rfl sl (.call Tryz.call76 rfl rfl rfl rfl (aA.pull pl (ia Si (by omega) (by omega) (by rw[List.length_append];omega))) ?_)))
   rintro Hu EY ⟨XX,rfl,NO⟩
   refine OT.nil (.any (.takes (fuel:=0) hT [7] kr kr rfl (.done kr sl (.seq (.cut (ι:=Value×Chunk) (fun j=>Own Go.Sx.aB 1 5 (j.1) (iA next xs i++eP s) (j.2)) (fun j=>[(1,.pointer (some ⟨b_1,0,none⟩)),(20,.slice a0 xs.length c0),(21,.int .i64 xs.length),(22,.int .i64 (i:Nat)),(4,(j.1)),(6,.pointer (some ⟨eG,0,none⟩))]) (fun j=>[(eG,blk (aq s) 83 (0,0))]::[(b_1,blk [.int .i64 next,.slice a0 xs.length c0] 94 (0,0))]::(j.2)::hs) ?_ ?_)))))
   .
    refine TT.seq (.region (.U hT 1 rfl (.load rfl rfl (Ld.one hT rfl hz rfl) rfl ?_)))
    refine OT.nil (.seq (.cond rfl (fun nq=> ?_) (fun nq=> ?_)))
    .
     refine TT.region (.U hT 1 rfl ?_)
     refine OT.buildSlice (enc:=Go.Sx.aB) (xs:=[1]) (gQ:=[.const (.int .u8 (1))]) eW rfl rfl rfl rfl rfl (by simp[Value.cells]) (fun _ _=>rfl) rfl (by decide) rfl (fun Sj WS OY=> ?_)
     refine OT.append hT eW rfl rfl rfl rfl pl NO OY.row rfl (by simp only[List.length_append,List.length_cons,List.length_nil];omega) rfl (fun ED NP E1=> ?_)
     refine OT.U hT 1 rfl (.nil (.cut (ED,NP) ?_ (aa.cons rfl (aa.cons rfl (aa.cons rfl (aa.cons rfl (aa.cons rfl (aa.cons rfl (aa.nil _))))))) sl))
     . dsimp only
       have e:iA next xs i++eP s=iA next xs i++aI s.name++put s.id++[1]:=by unfold eP;rw[if_pos nq];simp only[List.append_assoc]
       rw[e];exact E1
    .
     refine TT.region (.U hT 1 rfl ?_)
     refine OT.buildSlice (enc:=Go.Sx.aB) (xs:=[0]) (gQ:=[.const (.int .u8 (0))]) eW rfl rfl rfl rfl rfl (by simp[Value.cells]) (fun _ _=>rfl) rfl (by decide) rfl (fun vu KG rR=> ?_)
     refine OT.append hT eW rfl rfl rfl rfl pl NO rR.row rfl (by simp only[List.length_append,List.length_cons,List.length_nil];omega) rfl (fun vA zI ey=> ?_)
     refine OT.U hT 1 rfl (.nil (.cut (vA,zI) ?_ (aa.cons rfl (aa.cons rfl (aa.cons rfl (aa.cons rfl (aa.cons rfl (aa.cons rfl (aa.nil _))))))) sl))
     . dsimp only
       have e:iA next xs i++eP s=iA next xs i++aI s.name++put s.id++[0]:=by unfold eP;rw[if_neg (by rw[nq];decide)];simp only[List.append_assoc]
       rw[e];exact ey
   .
    rintro⟨w2,K2⟩ hI
    dsimp only at hI
    have GI:=hI
    show TT _ _ _ [(1,.pointer (some ⟨b_1,0,none⟩)),(20,.slice a0 xs.length c0),(21,.int .i64 xs.length),(22,.int .i64 (i:Nat)),(4,w2),(6,.pointer (some ⟨eG,0,none⟩))] ([(eG,blk (aq s) 83 (0,0))]::[(b_1,blk [.int .i64 next,.slice a0 xs.length c0] 94 (0,0))]::K2::hs)
    refine TT.seq (.region (.U hT 1 rfl (.CZ 1 32 hT rfl rfl rfl rfl rfl (.inr ⟨_,rfl⟩) (.inl ⟨rfl,rfl⟩) (by omega) (by omega) (by omega) rfl (.U hT 2 rfl (.nil (.seq (.block ?_)))))))
    have Mm:(s.map.drop 1).length=31:=by rw[List.length_drop,zw]
    have XY:(eP s).length<=29:=by unfold eP;simp only[List.length_append,List.length_cons,List.length_nil];omega
    refine TT.loop (ι:=Nat×Value×Chunk) (fun j=>(j.1)<=31/\Own Go.Sx.aB 1 5 (j.2.1) (iA next xs i++eP s++((s.map.drop 1).take (j.1)).map b8) (j.2.2)) (fun j=>31-(j.1)) (fun j=>[(1,.pointer (some ⟨b_1,0,none⟩)),(20,.slice a0 xs.length c0),(21,.int .i64 xs.length),(22,.int .i64 (i:Nat)),(4,(j.2.1)),(6,.pointer (some ⟨eG,0,none⟩)),(42,.slice (some ⟨eG,0+3+1*1,none⟩) (32-1) (32-1)),(43,.int .i64 ((32-1:Nat):Int)),(44,.int .i64 ((j.1):Nat))]) (fun j=>[(eG,blk (aq s) 83 (0,0))]::[(b_1,blk [.int .i64 next,.slice a0 xs.length c0] 94 (0,0))]::(j.2.2)::hs) (0,w2,K2) ?_ (aa.cons rfl (aa.cons rfl (aa.cons rfl (aa.cons rfl (aa.cons rfl (aa.cons rfl (aa.cons rfl (aa.cons rfl (aa.cons rfl (aa.nil _)))))))))) sl ?_
    . dsimp only
      exact⟨by omega,by simpa using GI⟩
    rintro⟨j2,w2,K2⟩ hI
    dsimp only at hI
    obtain⟨hj,GI⟩:=hI
    show TT _ _ _ [(1,.pointer (some ⟨b_1,0,none⟩)),(20,.slice a0 xs.length c0),(21,.int .i64 xs.length),(22,.int .i64 (i:Nat)),(4,w2),(6,.pointer (some ⟨eG,0,none⟩)),(42,.slice (some ⟨eG,0+3+1*1,none⟩) (32-1) (32-1)),(43,.int .i64 ((32-1:Nat):Int)),(44,.int .i64 (j2:Nat))] ([(eG,blk (aq s) 83 (0,0))]::[(b_1,blk [.int .i64 next,.slice a0 xs.length c0] 94 (0,0))]::K2::hs)
    have Uo:=List.length_take_le j2 (s.map.drop 1)
    refine TT.seq (.region (.U hT 1 rfl (.nil (.seq (.seq (.cond rfl (fun G6=> ?_) (fun G6=> ?_)))))))
    .
     have G6:=of_decide_eq_true G6
     obtain⟨at_,hat⟩:=nth (l:=s.map.drop 1) (i:=j2) (by omega)
     refine TT.skip (.seq (.seq (.block (.seq (.region (.index hT rfl rfl rfl rfl (FM fG) (by omega) hat rfl (fun Up L0=> ?_)))))))
     refine OT.load rfl rfl (L0.bL hT rfl rfl) rfl (.U hT 1 rfl (.nil (.seq (.region (.U hT 3 rfl ?_)))))
     refine OT.buildSlice (enc:=Go.Sx.aB) (xs:=[b8 at_]) (gQ:=[.tmp 50]) eW rfl rfl rfl rfl (by rw[H9];rfl) (by simp[Value.cells]) (fun _ _=>rfl) rfl (by decide) rfl (fun Hz HA xM=> ?_)
     refine OT.append hT eW rfl rfl rfl rfl pl GI xM.row rfl (by simp only[List.length_append,List.length_map,List.length_cons,List.length_nil];omega) rfl (fun Sk Sl OZ=> ?_)
     refine OT.U hT 1 rfl (.nil (.blk (.seq (.region (.U hT 2 rfl (.nil (.loop (j2+1,Sk,Sl) ?_ ?_ (aa.cons rfl (aa.cons rfl (aa.cons rfl (aa.cons rfl (aa.cons rfl (aa.cons rfl (aa.cons rfl (aa.cons rfl (aa.aM rfl (by(try dsimp only);exact(int_eq (by rw[wrap_i64 (by omega) (by omega)];omega))) (aa.nil _)))))))))) sl)))))))
     . dsimp only
       refine⟨by omega,?_⟩
       rw[tP _ _ hat,<-List.append_assoc]
       exact OZ
     . dsimp only
       omega
    .
     have G6:=of_decide_eq_false G6
     refine TT.exit (.seq (.loop (.here (.blk (.seq (.region (.U hT 2 rfl (.nil (.loop (i+1,w2,K2) ?_ ?_ (aa.cons rfl (aa.cons rfl (aa.cons rfl (aa.aM rfl (by(try dsimp only);exact(int_eq (by rw[wrap_i64 (by omega) (by omega)];omega))) (aa.cons rfl (aa.nil _)))))) sl)))))))))
     . dsimp only
       refine⟨by omega,?_⟩
       rw[AB hy,<-tQ,<-List.append_assoc]
       rw[List.take_of_length_le (by omega)]at GI
       exact GI
     . dsimp only
       omega
  .
   have nk:=of_decide_eq_false nk
   rw[Di (by omega)]at hO
   have ki:=gY hmay hr.1
   obtain⟨a9,c9,hw⟩:=(hO.row (hs:=hs)).len
   subst hw
   refine TT.exit (.seq (.loop (.here (.seq (.seq (.region (.U hT 4 rfl (.ic (z0:=(0:UInt8)) (m:=256-(cL next xs).length) Tryz.zeroValue5 rfl rfl rfl hT eW rfl rfl rfl (congrArg some (int_eq (by rw[wrap_i64 (by omega) (by omega)];omega))) pl hO (by omega) rfl (fun R8 Sm O0=> ?_)))))))))
   refine OT.U hT 2 rfl (.nil (.seq (.ret (.of (rs:=[.tmp 2,.tmp 3]) [_,_] (Sm::hs) rfl (.tmp rfl (.tmp rfl .nil)) sl ?_))))
   try dsimp only[one]
   have e:encode next xs=(kS (cL next xs),0):=by unfold encode;rw[if_pos hmay]
   rw[e]
   exact⟨_,_,rfl,rfl,O0⟩
end Go.Proofs.YtihpkgmfkbkffaaGreat.Sx
end
section
namespace Go.Proofs.YtihpkgmfkbkffaaGreat.Sx
open Go Go.Sx Go.Pl
variable[au]
set_option maxHeartbeats 4000000 in
set_option maxRecDepth 100000 in
theorem IM{v:Value}{xs:List UInt8}{hs:List Chunk}(hr:Row Go.Sx.aB 1 hs v xs)(hl:xs.length<=1073741824):aA Tryz.prog 121 [v] hs (fun v' hs'=>v'= .tuple ⟨[.agg ⟨aq (kT xs).1⟩,.int .i64 (kT xs).2]⟩/\hs=hs'):=by
 refine aA.enter 68 Tryz.func121 rfl Tryz.ntmps121 rfl ?_
 obtain⟨a0,c0,hv⟩:=hr.len
 subst hv
 have hk:= @eR xs
 obtain⟨res,hres⟩:∃r,kT xs=r:=⟨_,rfl⟩
 rw[hres]
 unfold kT at hres
 generalize hg:a_ xs=p at*
 obtain⟨name,at_,e⟩:=p
 dsimp only at*
 refine TT.seq (.region (.alloc Tryz.zeroValue83 rfl rfl (fun b_2=> ?_)))
 refine OT.U hT 1 rfl (.nil (.seq (.seq (.region (.alloc Tryz.zeroValue83 rfl rfl (fun nW=> ?_))))))
 refine OT.nil (.seq (.seq (.region (.U hT 1 rfl (.call Tryz.call160 rfl rfl rfl rfl (jj hr.there.there hl) ?_)))))
 rintro xd BB ⟨rfl,rfl⟩
 rw[hg]
 dsimp only
 refine OT.U hT 7 rfl (.nil (.seq (.seq (.seq (.region (.U hT 2 rfl (.nil (.seq (.cond rfl (fun eK=> ?_) (fun eK=> ?_))))))))))
 .
  have eK:¬e=0:=by simpa using eK
  rw[if_pos eK]at hres
  refine TT.seq (.region (.load rfl rfl (Ld.af hT rfl hz rfl) rfl ?_))
  refine OT.ag hT rfl rfl rfl rfl pl rfl rfl rfl (.inl (Nat.le_refl _)) ?_
  refine OT.U hT 1 rfl (.nil (.seq (.ret (.of (rs:=[.cell 2 83,.tmp 3]) [_,_] hs rfl (.cell rfl (Ld.af hT rfl hz rfl) (.tmp rfl .nil)) sl ?_))))
  try dsimp only[one]
  exact⟨by rw[<-hres];rfl,rfl⟩
 .
  have eK:e=0:=by simpa using eK
  rw[if_neg (by omega)]at hres
  have hk:=hk eK
  have hk2:= @jz (xs.drop at_.toNat)
  have Mm:(xs.drop at_.toNat).length=xs.length-at_.toNat:=List.length_drop
  generalize nr:get (xs.drop at_.toNat)=q at*
  obtain⟨id,n,e2⟩:=q
  dsimp only at*
  refine TT.skip (.seq (.seq (.region (.U hT 2 rfl (.slice at_.toNat xs.length hT rfl rfl rfl rfl rfl hr.there.there (.inr ⟨.i64,by rw[Int.toNat_of_nonneg (by omega)]⟩) (.inl ⟨rfl,rfl⟩) (by omega) (by omega) rfl (fun xb BD=> ?_))))))
  refine OT.call Tryz.call120 rfl rfl rfl rfl (ke BD (by rw[List.take_length,Mm];omega)) ?_
  rintro EE xJ ⟨rfl,rfl⟩
  rw[List.take_length,nr]
  dsimp only
  refine OT.U hT 7 rfl (.nil (.seq (.seq (.region (.U hT 4 rfl (.nil (.seq (.seq (.seq (.region (.U hT 3 rfl (.split 33 rfl (fun J8=> ?_) (fun J8=> ?_)))))))))))))
  .
   have J8:¬e2=0:=by simpa using J8
   rw[if_pos (.inl J8)]at hres
   refine OT.U hT 6 rfl (.nil (.seq (.cond_true rfl (.seq (.region (.load rfl rfl (Ld.af hT rfl hz rfl) rfl ?_))))))
   refine OT.ag hT rfl rfl rfl rfl pl rfl rfl rfl (.inl (Nat.le_refl _)) ?_
   refine OT.U hT 1 rfl (.nil (.seq (.ret (.of (rs:=[.cell 2 83,.tmp 3]) [_,_] hs rfl (.cell rfl (Ld.af hT rfl hz rfl) (.tmp rfl .nil)) sl ?_))))
   try dsimp only[one]
   exact⟨by rw[<-hres];rfl,rfl⟩
  .
   have J8:e2=0:=by simpa using J8
   have hk2:=hk2 J8
   refine OT.U hT 6 rfl (.nil (.seq (.cond rfl (fun tF=> ?_) (fun tF=> ?_))))
   .
    have tF:=of_decide_eq_true tF
    rw[wrap_i64 (n:=at_+n) (by omega) (by omega),wrap_i64 (by omega) (by omega)]at tF
    rw[if_pos (.inr tF)]at hres
    refine TT.seq (.region (.load rfl rfl (Ld.af hT rfl hz rfl) rfl ?_))
    refine OT.ag hT rfl rfl rfl rfl pl rfl rfl rfl (.inl (Nat.le_refl _)) ?_
    refine OT.U hT 1 rfl (.nil (.seq (.ret (.of (rs:=[.cell 2 83,.tmp 3]) [_,_] hs rfl (.cell rfl (Ld.af hT rfl hz rfl) (.tmp rfl .nil)) sl ?_))))
    try dsimp only[one]
    exact⟨by rw[<-hres];rfl,rfl⟩
   .
    have tF:=of_decide_eq_false tF
    rw[wrap_i64 (n:=at_+n) (by omega) (by omega),wrap_i64 (by omega) (by omega)]at tF
    rw[if_neg (by omega)]at hres
    refine TT.eI 6 rfl (int_eq (wrap_i64 (n:=at_+n) (by omega) (by omega))) ?_
    obtain⟨c,hc⟩:=nth (l:=xs) (i:=(at_+n).toNat) (by omega)
    have hb:((c.toNat:Int)==1)=decide (xs[(at_+n).toNat]? =some 1):=by
     rw[hc]
     refine Bool.eq_iff_iff.2 ?_
     rw[beq_iff_eq,decide_eq_true_eq,Option.some.injEq]
     constructor
     . intro h;apply UInt8.toNat_inj.1;show c.toNat=1;omega
     . intro h;rw[h];rfl
    have hm:(mapOf (xs.drop ((at_+n).toNat+1))).length=32:=oZ (by rw[List.length_drop];omega)
    refine TT.skip (.seq (.seq (.draw (hs) mixed (.takes (fuel:=8) hT [0,1,2,3,7] kr kr rfl (.index (fuel:=7) hT 4 rfl kr kr kr rfl rfl rfl rfl hr (by omega) hc rfl (fun JG pV=> ?_))))))
    refine AT.take (fuel:=6) hT 5 rfl rfl kr kr kr rfl (.load rfl (pV.bL hT rfl rfl)) rfl (.takes (fuel:=5) hT [6] kr kr rfl (.op (fuel:=4) 8 kr rfl sl (.store hT rfl rfl rfl rfl pl rfl (Nat.le_of_ble_eq_true rfl) rfl (.inl (Nat.le_refl _)) (cs':=aq ⟨name,0,false,List.replicate 32 0⟩) rfl ?_)))
    refine OT.nil (.any (.takes (fuel:=3) hT [9] kr kr rfl (.op (fuel:=2) 10 kr rfl sl (.store hT rfl rfl rfl rfl pl rfl (Nat.le_of_ble_eq_true rfl) rfl (.inl (Nat.le_refl _)) (cs':=aq ⟨name,id,false,List.replicate 32 0⟩) rfl ?_))))
    refine OT.nil (.any (.takes (fuel:=1) hT [11] kr kr rfl (.op (fuel:=0) 12 kr rfl sl (.store hT rfl rfl rfl rfl pl rfl (Nat.le_of_ble_eq_true rfl) rfl (.inl (Nat.le_refl _)) (cs':=aq ⟨name,id,decide (xs[(at_+n).toNat]? =some 1),jA (mapOf (xs.drop ((at_+n).toNat+1))) 1⟩) (by rw[Dl,<-hb];rfl) ?_))))
    refine OT.nil (.any (.done kr sl (.seq (.seq (.seq (.region (.U hT 1 rfl (.nil (.seq (.block (.loop (ι:=Nat) (fun j=>1<=(j)/\(j)<=32) (fun j=>32-(j)) (fun j=>[(0,.slice a0 xs.length c0),(2,.pointer (some ⟨b_2,0,none⟩)),(4,.pointer (some ⟨nW,0,none⟩)),(6,.int .i64 (at_+n)),(10,.int .i64 ((j):Nat))]) (fun j=>[(nW,blk (aq ⟨name,id,decide (xs[(at_+n).toNat]? =some 1),jA (mapOf (xs.drop ((at_+n).toNat+1))) (j)⟩) 83 (0,0))]::[(b_2,blk (aq lC) 83 (0,0))]::hs) (1) ?_ (aa.cons rfl (aa.cons rfl (aa.cons rfl (aa.cons rfl (aa.cons rfl (aa.nil _)))))) sl ?_)))))))))))
    . exact⟨by omega,by omega⟩
    rintro no ⟨Mq,hn2⟩
    show TT _ _ _ [(0,.slice a0 xs.length c0),(2,.pointer (some ⟨b_2,0,none⟩)),(4,.pointer (some ⟨nW,0,none⟩)),(6,.int .i64 (at_+n)),(10,.int .i64 (no:Nat))] ([(nW,blk (aq ⟨name,id,decide (xs[(at_+n).toNat]? =some 1),jA (mapOf (xs.drop ((at_+n).toNat+1))) no⟩) 83 (0,0))]::[(b_2,blk (aq lC) 83 (0,0))]::hs)
    refine TT.seq (.seq (.region (.U hT 2 rfl (.nil (.seq (.cond rfl (fun Em=> ?_) (fun Em=> ?_)))))))
    .
     have Em:=of_decide_eq_true Em
     obtain⟨c2,GB⟩:=nth (l:=xs) (i:=(at_+n).toNat+no) (by omega)
     have hm2:=FN GB Mq (by omega)
     refine TT.skip (.seq (.seq (.block (.region (.U hT 5 rfl (.index hT rfl rfl rfl rfl hr.there.there (by rw[wrap_i64 (by omega) (by omega)];omega) (by rw[wrap_i64 (by omega) (by omega),show(at_+n+(no:Int)).toNat=(at_+n).toNat+no by omega];exact GB) rfl (fun OK Af=> ?_)))))))
     refine OT.load rfl rfl (Af.bL hT rfl rfl) rfl (.U hT 1 rfl ?_)
     have ki:=c2.toNat_lt
     refine OT.eI 62 rfl (int_eq (wrap_i64 (n:=(c2.toNat:Int)) (by omega) (by omega))) (.U hT 1 rfl (.aT hT rfl rfl rfl rfl (by omega) (by omega) rfl (.store hT rfl rfl rfl rfl pl rfl (by rw[dJ];dsimp only;rw[o3 hm hn2];show 0+3+(no:Int).toNat*1+1<=32+3;omega) rfl (.inl (Nat.le_refl _)) (cs':=aq ⟨name,id,decide (xs[(at_+n).toNat]? =some 1),jA (mapOf (xs.drop ((at_+n).toNat+1))) (no+1)⟩) ((x6 (by dsimp only;rw[o3 hm hn2];omega)).trans (by dsimp only;rw[Dj hm2 (by omega) hm])) ?_)))
     refine OT.nil (.blk (.seq (.region (.U hT 3 rfl (.nil (.loop (no+1) ?_ ?_ (aa.cons rfl (aa.cons rfl (aa.cons rfl (aa.cons rfl (aa.aM rfl (by(try dsimp only);exact(int_eq (by rw[wrap_i64 (by omega) (by omega)];omega))) (aa.nil _)))))) sl))))))
     . exact⟨by omega,by omega⟩
     . omega
    .
     have Em:=of_decide_eq_false Em
     obtain rfl:no=32:=by omega
     rw[Dk hm]
     refine TT.exit (.seq (.loop (.here (.seq (.seq (.region (.load rfl rfl (Ld.af hT rfl Has.one (by rw[dJ];dsimp only;rw[hm])) rfl (.U hT 2 rfl (.ag hT rfl rfl rfl rfl pl (by show(aq _).length=35;rw[dJ];dsimp only;rw[hm]) rfl (jR _) (.inl (Nat.le_refl _)) ?_)))))))))
     refine OT.U hT 1 rfl (.nil (.seq (.ret (.of (rs:=[.cell 2 83,.tmp 3]) [_,_] hs rfl (.cell rfl (Ld.af hT rfl Has.one (by show(aq _).length=35;rw[dJ];dsimp only;rw[hm])) (.tmp rfl .nil)) sl ?_))))
     try dsimp only[one]
     refine⟨?_,rfl⟩
     rw[<-hres,wrap_i64 (by omega) (by omega)]
     rfl
set_option maxHeartbeats 4000000 in
set_option maxRecDepth 100000 in
theorem A3{v:Value}{xs:List UInt8}{hs:List Chunk}(hr:Row Go.Sx.aB 1 hs v xs)(hl:xs.length<=1073741824):aA Tryz.prog 72 [v] hs (fun v' hs'=>∃w H',v'= .tuple ⟨[.agg ⟨[.int .i64 (di xs).1.1,w]⟩,.int .i64 (di xs).2]⟩/\hs'=H'::hs/\Own aq 35 83 w (di xs).1.2 H'):=by
 refine aA.enter 89 Tryz.func72 rfl Tryz.ntmps72 rfl ?_
 obtain⟨a0,c0,hv⟩:=hr.len
 subst hv
 have hk:= @jz xs
 obtain⟨res,hres⟩:∃r,di xs=r:=⟨_,rfl⟩
 rw[hres]
 unfold di at hres
 generalize hg:get xs=p at*
 obtain⟨next,at_,e⟩:=p
 dsimp only at*
 refine TT.seq (.region (.alloc Tryz.zeroValue94 rfl rfl (fun b_2=> ?_)))
 refine OT.U hT 1 rfl (.nil (.seq (.seq (.seq (.region (.U hT 3 rfl (.nil (.seq (.cond rfl (fun fO=> ?_) (fun fO=> ?_))))))))))
 .
  have fO:¬(xs.length:Int)=256:=by simpa using fO
  rw[if_pos (by omega)]at hres
  refine TT.seq (.region (.build (cs:=[.int .i64 0,.slice none 0 0]) hT rfl Tryz.zeroValue94 rfl rfl rfl rfl (.ag hT rfl rfl rfl rfl pl rfl rfl rfl (.inl (Nat.le_refl _)) ?_)))
  refine OT.U hT 1 rfl (.nil (.seq (.ret (.of (rs:=[.cell 2 94,.tmp 3]) [_,_] ([]::hs) rfl (.cell rfl (Ld.af hT rfl hz rfl) (.tmp rfl .nil)) sl ?_))))
  try dsimp only[one]
  rw[<-hres]
  exact⟨_,[],rfl,rfl,Own.nil⟩
 .
  have fO:(xs.length:Int)=256:=by simpa using fO
  rw[if_neg (by omega)]at hres
  refine TT.skip (.seq (.seq (.region (.U hT 1 rfl (.call Tryz.call120 rfl rfl rfl rfl (ke hr.there hl) ?_)))))
  rintro vz rS ⟨rfl,rfl⟩
  rw[hg]
  dsimp only
  refine OT.U hT 7 rfl (.nil (.seq (.seq (.seq (.region (.U hT 2 rfl (.nil (.seq (.cond rfl (fun jx=> ?_) (fun jx=> ?_))))))))))
  .
   have jx:¬e=0:=by simpa using jx
   rw[if_pos jx]at hres
   refine TT.seq (.region (.build (cs:=[.int .i64 0,.slice none 0 0]) hT rfl Tryz.zeroValue94 rfl rfl rfl rfl (.ag hT rfl rfl rfl rfl pl rfl rfl rfl (.inl (Nat.le_refl _)) ?_)))
   refine OT.U hT 1 rfl (.nil (.seq (.ret (.of (rs:=[.cell 2 94,.tmp 3]) [_,_] ([]::hs) rfl (.cell rfl (Ld.af hT rfl hz rfl) (.tmp rfl .nil)) sl ?_))))
   try dsimp only[one]
   rw[<-hres]
   exact⟨_,[],rfl,rfl,Own.nil⟩
  .
   have jx:e=0:=by simpa using jx
   rw[if_neg (by omega)]at hres
   have hk:=hk jx
   have hk2:= @jz (xs.drop at_.toNat)
   have Mm:(xs.drop at_.toNat).length=xs.length-at_.toNat:=List.length_drop
   generalize nr:get (xs.drop at_.toNat)=q at*
   obtain⟨k,n,e2⟩:=q
   dsimp only at*
   refine TT.skip (.seq (.seq (.region (.U hT 2 rfl (.slice at_.toNat xs.length hT rfl rfl rfl rfl rfl hr.there (.inr ⟨.i64,by rw[Int.toNat_of_nonneg (by omega)]⟩) (.inl ⟨rfl,rfl⟩) (by omega) (by omega) rfl (fun vw O1=> ?_))))))
   refine OT.call Tryz.call120 rfl rfl rfl rfl (ke O1 (by rw[List.take_length,Mm];omega)) ?_
   rintro Sn O2 ⟨rfl,rfl⟩
   rw[List.take_length,nr]
   dsimp only
   refine OT.U hT 7 rfl (.nil (.seq (.seq (.seq (.region (.U hT 3 rfl (.split 37 rfl (fun J9=> ?_) (fun J9=> ?_))))))))
   .
    have J9:¬e2=0:=by simpa using J9
    rw[if_pos (.inl J9)]at hres
    refine OT.U hT 7 rfl (.nil (.seq (.cond_true rfl (.seq (.region (.build (cs:=[.int .i64 0,.slice none 0 0]) hT rfl Tryz.zeroValue94 rfl rfl rfl rfl (.ag hT rfl rfl rfl rfl pl rfl rfl rfl (.inl (Nat.le_refl _)) ?_)))))))
    refine OT.U hT 1 rfl (.nil (.seq (.ret (.of (rs:=[.cell 2 94,.tmp 3]) [_,_] ([]::hs) rfl (.cell rfl (Ld.af hT rfl hz rfl) (.tmp rfl .nil)) sl ?_))))
    try dsimp only[one]
    rw[<-hres]
    exact⟨_,[],rfl,rfl,Own.nil⟩
   .
    have J9:e2=0:=by simpa using J9
    have hk2:=hk2 J9
    refine OT.U hT 4 rfl (.split 41 rfl (fun Mw=> ?_) (fun Mw=> ?_))
    .
     have Mw:=of_decide_eq_true Mw
     rw[if_pos (.inr (.inl Mw))]at hres
     refine OT.U hT 3 rfl (.nil (.seq (.cond_true rfl (.seq (.region (.build (cs:=[.int .i64 0,.slice none 0 0]) hT rfl Tryz.zeroValue94 rfl rfl rfl rfl (.ag hT rfl rfl rfl rfl pl rfl rfl rfl (.inl (Nat.le_refl _)) ?_)))))))
     refine OT.U hT 1 rfl (.nil (.seq (.ret (.of (rs:=[.cell 2 94,.tmp 3]) [_,_] ([]::hs) rfl (.cell rfl (Ld.af hT rfl hz rfl) (.tmp rfl .nil)) sl ?_))))
     try dsimp only[one]
     rw[<-hres]
     exact⟨_,[],rfl,rfl,Own.nil⟩
    .
     have Mw:=of_decide_eq_false Mw
     refine OT.U hT 3 rfl (.nil (.seq (.cond rfl (fun GJ=> ?_) (fun GJ=> ?_))))
     .
      have GJ:=of_decide_eq_true GJ
      rw[if_pos (.inr (.inr GJ))]at hres
      refine TT.seq (.region (.build (cs:=[.int .i64 0,.slice none 0 0]) hT rfl Tryz.zeroValue94 rfl rfl rfl rfl (.ag hT rfl rfl rfl rfl pl rfl rfl rfl (.inl (Nat.le_refl _)) ?_)))
      refine OT.U hT 1 rfl (.nil (.seq (.ret (.of (rs:=[.cell 2 94,.tmp 3]) [_,_] ([]::hs) rfl (.cell rfl (Ld.af hT rfl hz rfl) (.tmp rfl .nil)) sl ?_))))
      try dsimp only[one]
      rw[<-hres]
      exact⟨_,[],rfl,rfl,Own.nil⟩
     .
      have GJ:=of_decide_eq_false GJ
      rw[if_neg (by omega)]at hres
      have hp:jJ xs next [] (cZ xs k.toNat (at_+n).toNat)=res:=by
       rw[<-hres]
       cases cZ xs k.toNat (at_+n).toNat<;>rfl
      clear hres
      refine TT.skip (.seq (.seq (.region (.U hT 2 rfl (.U hT 1 rfl (.eI 48 rfl (v:= .int .i64 (((at_+n).toNat:Nat):Int)) (int_eq (by rw[wrap_i64 (by omega) (by omega)];omega)) (.U hT 1 rfl (.nil (.seq (.seq (.region (.U hT 1 rfl (.build (cs:=[.int .i64 next,.slice none 0 0]) hT rfl Tryz.zeroValue94 rfl rfl rfl rfl (.alloc Tryz.zeroValue94 rfl rfl (fun gR=> ?_)))))))))))))))
      refine OT.ag hT rfl rfl rfl rfl pl rfl rfl rfl (.inl (Nat.le_refl _)) ?_
      refine OT.nil (.seq (.seq (.seq (.region (.U hT 2 rfl (.nil (.seq (.block (.jo (.loop (ι:=Nat×Nat×(List az)×(Option Addr)×Nat×Nat×Chunk) (fun j=>(j.1)<=k.toNat/\(j.2.1)<=xs.length/\(j.2.2.1).length=(j.1)/\Own aq 35 83 (.slice (j.2.2.2.1) (j.2.2.2.2.1) (j.2.2.2.2.2.1)) (j.2.2.1) (j.2.2.2.2.2.2)/\jJ xs next (j.2.2.1) (cZ xs (k.toNat-(j.1)) (j.2.1))=res) (fun j=>k.toNat-(j.1)) (fun j=>[(0,.slice a0 xs.length c0),(2,.pointer (some ⟨b_2,0,none⟩)),(5,.int .i64 ((j.2.1):Nat)),(9,.pointer (some ⟨gR,0,none⟩)),(51,.int .i64 k),(52,.int .i64 ((j.1):Nat))]) (fun j=>[(gR,blk [.int .i64 next,.slice (j.2.2.2.1) (j.2.2.2.2.1) (j.2.2.2.2.2.1)] 94 (0,0))]::[(b_2,blk [.int .i64 0,.slice none 0 0] 94 (0,0))]::(j.2.2.2.2.2.2)::hs) (0,(at_+n).toNat,[],none,0,0,[]) ?_ (aa.cons rfl (aa.cons rfl (aa.cons rfl (aa.cons rfl (aa.cons rfl (aa.cons rfl (aa.nil _))))))) sl ?_))))))))))
      . dsimp only
        exact⟨by omega,by omega,rfl,Own.nil,hp⟩
      rintro⟨i,a,acc,sa,sn,sc,K⟩ hI
      dsimp only at hI
      obtain⟨hi,ha,lX,hO,hp⟩:=hI
      show TT _ _ _ [(0,.slice a0 xs.length c0),(2,.pointer (some ⟨b_2,0,none⟩)),(5,.int .i64 (a:Nat)),(9,.pointer (some ⟨gR,0,none⟩)),(51,.int .i64 k),(52,.int .i64 (i:Nat))] ([(gR,blk [.int .i64 next,.slice sa sn sc] 94 (0,0))]::[(b_2,blk [.int .i64 0,.slice none 0 0] 94 (0,0))]::K::hs)
      refine TT.seq (.region (.U hT 1 rfl (.nil (.seq (.seq (.cond rfl (fun tG=> ?_) (fun tG=> ?_)))))))
      .
       have tG:=of_decide_eq_true tG
       rw[show k.toNat-i=(k.toNat-(i+1))+1 by omega,cZ]at hp
       have qW:=Lp (xs.drop a)
       have fG:=x5 (xs.drop a)
       have So:(xs.drop a).length=xs.length-a:=List.length_drop
       generalize En:kT (xs.drop a)=o at*
       obtain⟨s,m⟩:=o
       dsimp only at*
       refine TT.skip (.seq (.seq (.block (.seq (.region (.U hT 2 rfl (.slice a xs.length hT rfl rfl rfl rfl rfl hr.there.there.there (.inr ⟨_,rfl⟩) (.inl ⟨rfl,rfl⟩) (by omega) (by omega) rfl (fun WT O3=> ?_))))))))
       refine OT.call Tryz.call121 rfl rfl rfl rfl (IM O3 (by rw[List.take_length,So];omega)) ?_
       rintro NF O4 ⟨rfl,rfl⟩
       rw[List.take_length,En]
       dsimp only
       refine OT.U hT 3 rfl (.alloc Tryz.zeroValue83 rfl rfl (fun vC=> ?_))
       refine OT.ag hT rfl rfl rfl rfl pl (by exact fG) rfl (jR s) (.inl (Nat.le_refl _)) ?_
       refine OT.U hT 1 rfl (.nil (.seq (.seq (.seq (.region (.U hT 2 rfl (.nil (.seq (.cond rfl (fun J_=> ?_) (fun J_=> ?_))))))))))
       .
        have J_:m=0:=by simpa using J_
        rw[if_pos J_]at hp
        refine TT.seq (.region (.build (cs:=[.int .i64 0,.slice none 0 0]) hT rfl Tryz.zeroValue94 rfl rfl rfl rfl (.ag hT rfl rfl rfl rfl pl rfl rfl rfl (.inl (Nat.le_refl _)) ?_)))
        refine OT.U hT 1 rfl (.nil (.seq (.ret (.of (rs:=[.cell 2 94,.tmp 3]) [_,_] ([]::hs) rfl (.cell rfl (Ld.af hT rfl hz rfl) (.tmp rfl .nil)) sl ?_))))
        try dsimp only[one]
        rw[<-hp]
        exact⟨_,[],rfl,rfl,Own.nil⟩
       .
        have J_:¬m=0:=by simpa using J_
        rw[if_neg J_,tV]at hp
        refine TT.skip (.seq (.seq (.region (.U hT 1 rfl (.load rfl rfl (Ld.slc hT rfl hz rfl) rfl ?_)))))
        refine OT.load rfl rfl (Ld.af hT rfl Has.one (by exact fG)) rfl ?_
        refine OT.buildSlice (enc:=aq) (xs:=[s]) (gQ:=[.tmp 66]) w7 rfl rfl rfl rfl rfl (by intro v hv;simp only[List.mem_singleton]at hv;subst hv;exact fG) (by intro x hx;simp only[List.mem_singleton]at hx;subst hx;exact fG) rfl (by decide) rfl (fun CO WU O5=> ?_)
        refine OT.append hT w7 rfl rfl rfl rfl pl hO O5.row (kq _) (by simp only[List.length_cons,List.length_nil];omega) rfl (fun WV Sp JK=> ?_)
        obtain⟨NQ,NR,NS⟩:=(JK.row (hs:=hs)).len
        generalize WW:(acc++[s]).length=NT at NS
        subst NS
        refine OT.U hT 1 rfl (.store hT rfl rfl rfl rfl pl rfl (Nat.le_of_ble_eq_true rfl) rfl (.inl (Nat.le_refl _)) (cs':=[.int .i64 next,.slice NQ NT NR]) rfl ?_)
        refine OT.nil (.seq (.region (.U hT 4 rfl (.nil (.blk (.seq (.region (.U hT 2 rfl (.nil (.loop (i+1,a+m.toNat,acc++[s],NQ,NT,NR,Sp) ?_ ?_ (aa.cons rfl (aa.cons rfl (aa.aM rfl (by(try dsimp only);exact(int_eq (by rw[wrap_i64 (by omega) (by omega)];omega))) (aa.cons rfl (aa.cons rfl (aa.aM rfl (by(try dsimp only);exact(int_eq (by rw[wrap_i64 (by omega) (by omega)];omega))) (aa.nil _))))))) sl))))))))))
        . dsimp only
          refine⟨by omega,by omega,by rw[List.length_append,lX];rfl,JK,?_⟩
          rw[<-hp]
        . dsimp only
          omega
      .
       have tG:=of_decide_eq_false tG
       rw[show k.toNat-i=0 by omega,cZ]at hp
       dsimp only[jJ]at hp
       rw[List.append_nil]at hp
       unfold rY at hp
       refine TT.exit (.seq (.loop (.here (.seq (.seq (.seq (.region (.load rfl rfl (Ld.af hT rfl hz rfl) rfl ?_))))))))
       refine OT.call Tryz.call44 rfl rfl rfl rfl (nO ((hO.row (hs:=hs)).there.there) (by omega)) ?_
       rintro WX Uq ⟨w1,H1,rfl,rfl,hE⟩
       refine OT.U hT 5 rfl (.nil (.seq (.seq (.region (.U hT 3 rfl (.split 81 rfl (fun rF=> ?_) (fun rF=> ?_)))))))
       .
        have rF:¬(encode next acc).2=0:=by simpa using rF
        rw[if_pos (.inl rF)]at hp
        refine OT.U hT 5 rfl (.nil (.seq (.cond_true rfl (.seq (.region (.build (cs:=[.int .i64 0,.slice none 0 0]) hT rfl Tryz.zeroValue94 rfl rfl rfl rfl (.ag hT rfl rfl rfl rfl pl rfl rfl rfl (.inl (Nat.le_refl _)) ?_)))))))
        refine OT.U hT 1 rfl (.nil (.seq (.ret (.of (rs:=[.cell 2 94,.tmp 3]) [_,_] ([]::hs) rfl (.cell rfl (Ld.af hT rfl hz rfl) (.tmp rfl .nil)) sl ?_))))
        try dsimp only[one]
        rw[<-hp]
        exact⟨_,[],rfl,rfl,Own.nil⟩
       .
        have rF:(encode next acc).2=0:=by simpa using rF
        refine OT.U hT 2 rfl (.call Tryz.call122 rfl rfl rfl rfl (yE hE.row hr.there.there.there.there) ?_)
        rintro Sq O6 ⟨rfl,rfl⟩
        refine OT.U hT 2 rfl (.nil (.seq (.cond rfl (fun Mx=> ?_) (fun Mx=> ?_))))
        .
         have Mx:¬(encode next acc).1=xs:=by simpa using Mx
         rw[if_pos (.inr Mx)]at hp
         refine TT.seq (.region (.build (cs:=[.int .i64 0,.slice none 0 0]) hT rfl Tryz.zeroValue94 rfl rfl rfl rfl (.ag hT rfl rfl rfl rfl pl rfl rfl rfl (.inl (Nat.le_refl _)) ?_)))
         refine OT.U hT 1 rfl (.nil (.seq (.ret (.of (rs:=[.cell 2 94,.tmp 3]) [_,_] ([]::hs) rfl (.cell rfl (Ld.af hT rfl hz rfl) (.tmp rfl .nil)) sl ?_))))
         try dsimp only[one]
         rw[<-hp]
         exact⟨_,[],rfl,rfl,Own.nil⟩
        .
         have Mx:(encode next acc).1=xs:=by simpa using Mx
         rw[if_neg (by rintro(h|h)<;>exact h (by assumption))]at hp
         refine TT.skip (.seq (.seq (.region (.load rfl rfl (Ld.af hT rfl hz rfl) rfl ?_))))
         refine OT.ag hT rfl rfl rfl rfl pl rfl rfl rfl (.inl (Nat.le_refl _)) ?_
         refine OT.U hT 1 rfl (.nil (.seq (.ret (.of (rs:=[.cell 2 94,.tmp 3]) [_,_] (K::hs) rfl (.cell rfl (Ld.af hT rfl hz rfl) (.tmp rfl .nil)) sl ?_))))
         try dsimp only[one]
         rw[<-hp]
         exact⟨_,K,rfl,rfl,hO⟩
end Go.Proofs.YtihpkgmfkbkffaaGreat.Sx
end
section
namespace Go.Proofs.YtihpkgmfkbkffaaGreat.Sx
open Go Go.Sx Go.Pl
variable[au]
omit [au] in
def xN(bv ti:Nat)(ui:Value)(s:az)(I:Chunk->Prop)(HV:Chunk):Prop:=∃H,HV=[(bv,blk (.iface ti ui::aq s) 134 (0,0))]++H/\I H
omit [au] in
theorem Cr{P:Value}{s:az}{n:Nat}{x:Int}(h:s.map[n]? =some x):(P::aq s)[0+1+3+(n:Int).toNat*1]? =some (.int .i64 x):=by
 have:=ot h
 rw[show 0+1+3+(n:Int).toNat*1=(0+3+(n:Int).toNat*1)+1 by omega,List.getElem?_cons_succ]
 exact this
omit [au] in
theorem mO.view{bv ti:Nat}{ui:Value}{s:az}{I:Chunk->Prop}{E:Int->Chunk->Prop}{x:Int×List UInt8}{e:Int}{bs:List UInt8}{H:Chunk}(h:mO I E x e bs H):mO (xN bv ti ui s I) (fun e=>xN bv ti ui s (E e)) x e bs ([(bv,blk (.iface ti ui::aq s) 134 (0,0))]++H):=by
 rcases h with⟨h1,h2,h3⟩|⟨h1,h2,⟨h3,h4⟩|h3⟩
 . exact .inl ⟨h1,h2,H,rfl,h3⟩
 . exact .inr ⟨h1,h2,.inl ⟨h3,H,rfl,h4⟩⟩
 . exact .inr ⟨h1,h2,.inr ⟨H,rfl,h3⟩⟩
set_option maxHeartbeats 1000000 in
set_option maxRecDepth 100000 in
theorem DQ{bv ti:Nat}{ui:Value}{s:az}{I:Chunk->Prop}{E:Int->Chunk->Prop}{pg:Int->Int×List UInt8}{H:Chunk}{r:List Chunk}(hP:ni Tryz.prog 5 (.iface ti ui) I E pg)(hI:I H)(fG:(aq s).length=35)(QN:s.side){no:Int}(h1: -9223372036854775808<=no)(h2:no<=9223372036854775807):aA Tryz.prog 41 [.pointer (some ⟨bv,0,none⟩),.int .i64 no] (([(bv,blk (.iface ti ui::aq s) 134 (0,0))]++H)::r) (fun v' hs'=>∃H' K w e bs,hs'=H'::K::r/\v'= .tuple ⟨[w,.int .i64 e]⟩/\Own Go.Sx.aB 1 5 w bs K/\mO (xN bv ti ui s I) (fun e=>xN bv ti ui s (E e)) (cH s pg no) e bs H'):=by
 refine aA.enter 47 Tryz.func41 rfl Tryz.ntmps41 rfl ?_
 have zw:=mQ fG
 refine TT.split (.seq (.region (.U hT 2 rfl (.nil (.seq (.seq (.block (.seq (.region (.U hT 3 rfl (.U hT 3 rfl (.load rfl rfl (Ld.one hT rfl hz rfl) rfl ?_))))))))))))
 refine OT.U hT 3 rfl (.nil (.seq (.cond_false rfl (.seq (.region (.U hT 3 rfl (.split 19 rfl (fun GY=> ?_) (fun GY=> ?_))))))))
 .
  have GY:=of_decide_eq_true GY
  refine OT.U hT 4 rfl (.nil (.seq (.cond_true rfl (.seq (.region (.U hT 2 rfl (.nil (.seq (.ret (.of (rs:=[.tmp 4,.tmp 5]) [_,_] (([(bv,blk (.iface ti ui::aq s) 134 (0,0))]++H)::[]::r) rfl (.tmp rfl (.tmp rfl .nil)) sl ?_))))))))))
  try dsimp only[one]
  exact⟨[(bv,blk (.iface ti ui::aq s) 134 (0,0))]++H,[],_,3,[],rfl,rfl,Own.nil,.inr ⟨by decide,rfl,.inl ⟨by unfold cH;rw[if_pos (by omega)],H,rfl,hI⟩⟩⟩
 .
  have GY:=of_decide_eq_false GY
  refine OT.U hT 4 rfl (.nil (.seq (.cond rfl (fun fO=> ?_) (fun fO=> ?_))))
  .
   have fO:=of_decide_eq_true fO
   refine TT.seq (.region (.U hT 2 rfl (.nil (.seq (.ret (.of (rs:=[.tmp 4,.tmp 5]) [_,_] (([(bv,blk (.iface ti ui::aq s) 134 (0,0))]++H)::[]::r) rfl (.tmp rfl (.tmp rfl .nil)) sl ?_))))))
   try dsimp only[one]
   exact⟨[(bv,blk (.iface ti ui::aq s) 134 (0,0))]++H,[],_,3,[],rfl,rfl,Own.nil,.inr ⟨by decide,rfl,.inl ⟨by unfold cH;rw[if_pos (by omega)],H,rfl,hI⟩⟩⟩
  .
   have fO:=of_decide_eq_false fO
   obtain⟨n,rfl⟩:∃n:Nat,no=n:=⟨no.toNat,by omega⟩
   obtain⟨x,hx⟩:=nth (l:=s.map) (i:=n) (by omega)
   have hxs:=QN x (List.mem_of_getElem? hx)
   refine TT.seq (.region (.U hT 5 rfl (.aT hT rfl rfl rfl rfl (by omega) (by omega) rfl (.load rfl rfl (Ld.one hT rfl hz (Cr hx)) rfl ?_))))
   refine OT.U hT 2 rfl (.nil (.seq (.cond rfl (fun nk=> ?_) (fun nk=> ?_))))
   .
    have nk:=bne_iff_ne.1 nk
    refine TT.region (.U hT 5 rfl (.aT hT rfl rfl rfl rfl (by omega) (by omega) rfl (.load rfl rfl (Ld.one hT rfl hz (Cr hx)) rfl ?_)))
    refine OT.U hT 1 rfl (.nil (.blk (.seq (.seq (.region (.U hT 3 rfl (.load rfl rfl (Ld.one hT rfl hz rfl) rfl ?_)))))))
    refine OT.U hT 1 rfl (.kS hP rfl rfl rfl rfl pl hI (by omega) (by omega) (fun KP EG Sr Ss O7 E2 E3=> ?_))
    refine OT.U hT 4 rfl (.nil (.seq (.ret (.of (rs:=[.tmp 4,.tmp 5]) [_,_] (([(bv,blk (.iface ti ui::aq s) 134 (0,0))]++KP)::EG::r) rfl (.tmp rfl (.tmp rfl .nil)) sl ?_))))
    try dsimp only[one]
    have hv:cH s pg (n:Nat)=pg x:=by unfold cH lz;rw[if_neg (by omega),az.mj hx];rw[if_pos nk]
    exact⟨_,EG,_,_,_,rfl,rfl,E2,by rw[hv];exact mO.view E3⟩
   .
    have nk:=bne_eq_false_iff_eq.1 nk
    refine TT.skip (.blk (.seq (.seq (.region (.U hT 3 rfl (.load rfl rfl (Ld.one hT rfl hz rfl) rfl ?_))))))
    refine OT.U hT 1 rfl (.kS hP rfl rfl rfl rfl pl hI (by omega) (by omega) (fun KP EG Sr Ss O7 E2 E3=> ?_))
    refine OT.U hT 4 rfl (.nil (.seq (.ret (.of (rs:=[.tmp 4,.tmp 5]) [_,_] (([(bv,blk (.iface ti ui::aq s) 134 (0,0))]++KP)::EG::r) rfl (.tmp rfl (.tmp rfl .nil)) sl ?_))))
    try dsimp only[one]
    have hv:cH s pg (n:Nat)=pg (n:Nat):=by unfold cH lz;rw[if_neg (by omega),az.mj hx];rw[if_neg (fun h=>h nk)]
    exact⟨_,EG,_,_,_,rfl,rfl,E2,by rw[hv];exact mO.view E3⟩
end Go.Proofs.YtihpkgmfkbkffaaGreat.Sx
end
section
namespace Go.Proofs.YtihpkgmfkbkffaaGreat.Sx
open Go Go.Sx Go.Pl
variable[au]
set_option maxHeartbeats 1000000 in
set_option maxRecDepth 100000 in
theorem cR{vb:Value}{bs:List UInt8}{r:List Chunk}(hr:Row Go.Sx.aB 1 r vb bs)(hl:bs.length<=256):aA Tryz.prog 39 [vb] r (fun v' hs'=>∃H',hs'=H'::r/\Own Go.Sx.aB 1 5 v' (iJ bs) H'):=by
 refine aA.enter 9 Tryz.func39 rfl Tryz.ntmps39 rfl ?_
 refine TT.seq (.region (.U hT 1 rfl (.nil (.seq (.seq (.region ?_))))))
 refine OT.make (enc:=Go.Sx.aB) (z0:=(0:UInt8)) (n:=256) eW Tryz.zeroValue5 rfl rfl rfl rfl rfl (by omega) rfl (fun Qw QO HD=> ?_)
 obtain⟨eb,eo,ec,_,_,Tz,_⟩:=HD.over (by simp)
 rw[List.length_replicate]at Tz
 subst Tz
 obtain⟨ab,cb,VR⟩:=hr.len
 subst VR
 refine OT.U hT 1 rfl (.nil (.seq (.seq (.region (.U hT 2 rfl (.fc 0 hT rfl rfl rfl rfl pl HD hr.there (by simp;omega) (by simp) (sU _) rfl (fun M9 EH=> ?_)))))))
 refine OT.nil (.seq (.seq (.region (.U hT 2 rfl (.nil (.seq (.ret (.of (rs:=[.tmp 2]) [_] (M9::r) rfl (.tmp rfl .nil) sl ?_))))))))
 try dsimp only[one]
 refine⟨_,rfl,?_⟩
 have e:over (List.replicate 256 (0:UInt8)) 0 (bs.take 256)=iJ bs:=by
  unfold over iJ dO
  rw[show bs.take 256=bs from List.take_of_length_le (by omega),List.take_zero,List.nil_append,Nat.zero_add,List.drop_replicate]
 rw[<-e];exact EH
end Go.Proofs.YtihpkgmfkbkffaaGreat.Sx
end
section
namespace Go.Proofs.YtihpkgmfkbkffaaGreat.Sx
open Go Go.Sx Go.Pl
variable[au]
set_option maxHeartbeats 1000000 in
set_option maxRecDepth 100000 in
theorem yF{v:Value}{xs:List az}{hs:List Chunk}(hr:Row aq 35 hs v xs)(hl:xs.length<=1073741824):aA Tryz.prog 74 [v] hs (fun v' hs'=>∃H',hs'=H'::hs/\Own aq 35 83 v' xs H'):=by
 refine aA.enter 8 Tryz.func74 rfl Tryz.ntmps74 rfl ?_
 obtain⟨a0,c0,hv⟩:=hr.len
 subst hv
 refine TT.seq (.region (.U hT 1 rfl (.nil (.seq (.seq (.seq (.region (.U hT 2 rfl (.nil (.seq (.cond rfl (fun c4=> ?_) (fun c4=> ?_))))))))))))
 .
  have hx:xs=[]:=by
   rcases hr.2 with⟨_,h⟩|⟨b,o,cap,cs,t,fr,h,_⟩
   . exact h
   . injection h with h;rw[h]at c4;cases c4
  subst hx
  refine TT.seq (.region (.U hT 1 rfl (.nil (.seq (.ret (.of (rs:=[.tmp 2]) [_] ([]::hs) rfl (.tmp rfl .nil) sl ?_))))))
  try dsimp only[one]
  exact⟨[],rfl,Own.nil⟩
 .
  refine TT.skip (.seq (.seq (.region ?_)))
  refine OT.buildSlice (enc:=aq) (xs:=([]:List az)) (gQ:=[]) w7 rfl rfl rfl rfl rfl (by intro v hv;cases hv) (by intro v hv;cases hv) rfl (by decide) rfl (fun Tr VS KQ=> ?_)
  refine OT.U hT 1 rfl ?_
  refine OT.append hT w7 rfl rfl rfl rfl pl KQ hr.there (kq xs) (by simp only[List.length_nil];omega) rfl (fun CV M9 EH=> ?_)
  refine OT.U hT 1 rfl (.nil (.seq (.ret (.of (rs:=[.tmp 2]) [_] (M9::hs) rfl (.tmp rfl .nil) sl ?_))))
  try dsimp only[one]
  exact⟨_,rfl,EH⟩
set_option maxHeartbeats 4000000 in
set_option maxRecDepth 100000 in
theorem IP{next:Int}{v:Value}{xs:List az}{nm:ByteArray}{hs:List Chunk}(hr:Row aq 35 hs v xs)(hl:xs.length<=1073741824)(h0: -9223372036854775808<=next):aA Tryz.prog 43 [.agg ⟨[.int .i64 next,v]⟩,.string nm] hs (fun v' hs'=>∃w H',v'= .tuple ⟨[.agg ⟨[.int .i64 (k6 next xs nm).1.1,w]⟩,.int .i64 (k6 next xs nm).2]⟩/\hs'=H'::hs/\Own aq 35 83 w (k6 next xs nm).1.2 H'):=by
 refine aA.enter 43 Tryz.func43 rfl Tryz.ntmps43 rfl ?_
 obtain⟨a0,c0,hv⟩:=hr.len
 subst hv
 obtain⟨res,hres⟩:∃r,k6 next xs nm=r:=⟨_,rfl⟩
 rw[hres]
 unfold k6 at hres
 refine TT.seq (.region (.box rfl rfl rfl (fun b_2=> ?_)))
 refine OT.alloc Tryz.zeroValue94 rfl rfl (fun nW=> ?_)
 refine OT.U hT 1 rfl (.nil (.seq (.seq (.block (.seq (.region (.U hT 1 rfl (.call Tryz.call73 rfl rfl rfl rfl (yC) ?_))))))))
 rintro J3 zF ⟨rfl,rfl⟩
 refine OT.U hT 2 rfl (.nil (.seq (.cond rfl (fun c7=> ?_) (fun c7=> ?_))))
 .
  have c7:ej nm=false:=by simpa using c7
  rw[if_pos c7]at hres
  refine TT.seq (.region (.build (cs:=[.int .i64 0,.slice none 0 0]) hT rfl Tryz.zeroValue94 rfl rfl rfl rfl (.ag hT rfl rfl rfl rfl pl rfl rfl rfl (.inl (Nat.le_refl _)) ?_)))
  refine OT.U hT 1 rfl (.nil (.seq (.ret (.of (rs:=[.cell 4 94,.tmp 5]) [_,_] ([]::hs) rfl (.cell rfl (Ld.af hT rfl hz rfl) (.tmp rfl .nil)) sl ?_))))
  try dsimp only[one]
  rw[<-hres]
  exact⟨_,[],rfl,rfl,Own.nil⟩
 .
  have c7:ej nm=true:=by simpa using c7
  rw[if_neg (by rw[c7];decide)]at hres
  refine TT.seq (.region (.load rfl rfl (Ld.af hT rfl hz rfl) rfl ?_))
  refine OT.U hT 1 rfl (.call Tryz.call45 rfl rfl rfl rfl (lH hr.there.there hl) ?_)
  rintro CP uw ⟨rfl,rfl⟩
  refine OT.U hT 2 rfl (.nil (.seq (.cond rfl (fun fu=> ?_) (fun fu=> ?_))))
  .
   have fu:=of_decide_eq_true fu
   rw[if_pos fu]at hres
   refine TT.seq (.region (.build (cs:=[.int .i64 0,.slice none 0 0]) hT rfl Tryz.zeroValue94 rfl rfl rfl rfl (.ag hT rfl rfl rfl rfl pl rfl rfl rfl (.inl (Nat.le_refl _)) ?_)))
   refine OT.U hT 1 rfl (.nil (.seq (.ret (.of (rs:=[.cell 4 94,.tmp 5]) [_,_] ([]::hs) rfl (.cell rfl (Ld.af hT rfl hz rfl) (.tmp rfl .nil)) sl ?_))))
   try dsimp only[one]
   rw[<-hres]
   exact⟨_,[],rfl,rfl,Own.nil⟩
  .
   have fu:=of_decide_eq_false fu
   rw[if_neg fu]at hres
   refine TT.seq (.region (.U hT 1 rfl (.load rfl rfl (Ld.slc hT rfl hz rfl) rfl ?_)))
   refine OT.U hT 3 rfl (.split 23 rfl (fun G7=> ?_) (fun G7=> ?_))
   .
    have G7:=of_decide_eq_true G7
    rw[if_pos (.inl (by omega))]at hres
    refine OT.U hT 5 rfl (.nil (.seq (.cond_true rfl (.seq (.region (.build (cs:=[.int .i64 0,.slice none 0 0]) hT rfl Tryz.zeroValue94 rfl rfl rfl rfl (.ag hT rfl rfl rfl rfl pl rfl rfl rfl (.inl (Nat.le_refl _)) ?_)))))))
    refine OT.U hT 1 rfl (.nil (.seq (.ret (.of (rs:=[.cell 4 94,.tmp 5]) [_,_] ([]::hs) rfl (.cell rfl (Ld.af hT rfl hz rfl) (.tmp rfl .nil)) sl ?_))))
    try dsimp only[one]
    rw[<-hres]
    exact⟨_,[],rfl,rfl,Own.nil⟩
   .
    have G7:=of_decide_eq_false G7
    refine OT.U hT 1 rfl (.load rfl rfl (Ld.one hT rfl hz rfl) rfl ?_)
    refine OT.U hT 3 rfl (.nil (.seq (.cond rfl (fun eK=> ?_) (fun eK=> ?_))))
    .
     have eK:=of_decide_eq_true eK
     rw[if_pos (.inr eK)]at hres
     refine TT.seq (.region (.build (cs:=[.int .i64 0,.slice none 0 0]) hT rfl Tryz.zeroValue94 rfl rfl rfl rfl (.ag hT rfl rfl rfl rfl pl rfl rfl rfl (.inl (Nat.le_refl _)) ?_)))
     refine OT.U hT 1 rfl (.nil (.seq (.ret (.of (rs:=[.cell 4 94,.tmp 5]) [_,_] ([]::hs) rfl (.cell rfl (Ld.af hT rfl hz rfl) (.tmp rfl .nil)) sl ?_))))
     try dsimp only[one]
     rw[<-hres]
     exact⟨_,[],rfl,rfl,Own.nil⟩
    .
     have eK:=of_decide_eq_false eK
     rw[if_neg (by omega)]at hres
     refine TT.skip (.blk (.seq (.seq (.region (.U hT 2 rfl (.load rfl rfl (Ld.one hT rfl hz rfl) rfl ?_))))))
     refine OT.U hT 1 rfl (.eI 32 rfl (int_eq (wrap_i64 (n:=next+1) (by omega) (by omega))) (.build (cs:=(aq (dz nm (next+1)))) hT rfl Tryz.zeroValue83 rfl rfl rfl rfl (.alloc Tryz.zeroValue83 rfl rfl (fun eG=> ?_))))
     refine OT.ag hT rfl rfl rfl rfl pl rfl rfl rfl (.inl (Nat.le_refl _)) ?_
     refine OT.nil (.seq (.seq (.draw ([(eG,blk (aq (dz nm (next+1))) 83 (0,0))]::[(b_2,blk [.int .i64 next,.slice a0 xs.length c0] 94 (0,0))]::hs) mixed (.takes (fuel:=9) hT [0,2] kr kr rfl (.take (fuel:=8) hT 1 rfl rfl kr kr kr rfl (.load rfl (Ld.one hT rfl hz rfl)) rfl ?_)))))
     refine AT.take (fuel:=7) hT 3 rfl rfl kr kr kr rfl (.load rfl (Ld.slc hT rfl hz rfl)) rfl ?_
     refine AT.take (fuel:=6) hT 5 rfl rfl kr kr kr rfl (.load rfl (Ld.af hT rfl Has.one rfl)) rfl (.all (fuel:=5) [4,6] kr (by decide) sl ?_)
     intro i hi
     simp only[List.mem_cons,List.not_mem_nil,or_false]at hi
     rcases hi with rfl|rfl
     .
      refine⟨_,rfl,?_⟩
      refine OT.call Tryz.call74 rfl rfl rfl rfl (yF hr.there.there.there hl) ?_
      rintro xe ux ⟨VT,rfl,KR⟩
      refine OT.nil (.any (.op (fuel:=4) 6 kr rfl sl ?_))
      refine OT.buildSlice (enc:=aq) (xs:=[dz nm (next+1)]) (gQ:=[.tmp 39]) w7 rfl rfl rfl rfl rfl (by intro v hv;simp only[List.mem_singleton]at hv;subst hv;rfl) (by intro x hx;simp only[List.mem_singleton]at hx;subst hx;rfl) rfl (by decide) rfl (fun vA zI ey=> ?_)
      refine OT.nil (.any (.op (fuel:=3) 7 kr rfl sl ?_))
      refine OT.append hT w7 rfl rfl rfl rfl pl KR (by first|exact ey.row|exact ey.row.there) (kq _) (by simp only[List.length_cons,List.length_nil];omega) rfl (fun CK KU xO=> ?_)
      obtain⟨KV,KW,KX⟩:=(xO.row (hs:=hs)).len
      subst KX
      refine OT.nil (.any (.take (fuel:=2) hT 8 rfl rfl kr kr kr rfl (gB (cs:=[.int .i64 (next+1),.slice KV (xs++[dz nm (next+1)]).length KW]) hT rfl Tryz.zeroValue94 rfl rfl) rfl (.op (fuel:=1) 9 kr rfl sl (.ag hT rfl rfl rfl rfl pl rfl rfl rfl (.inl (Nat.le_refl _)) ?_))))
      refine OT.nil (.any (.takes (fuel:=0) hT [10] kr kr rfl (.done kr sl (.seq (.ret (.of (rs:=[.cell 4 94,.tmp 5]) [_,_] (KU::hs) rfl (.cell rfl (Ld.af hT rfl hz rfl) (.tmp rfl .nil)) sl ?_))))))
      try dsimp only[one]
      rw[<-hres]
      exact⟨_,_,rfl,rfl,xO⟩
     .
      refine⟨_,rfl,?_⟩
      refine OT.buildSlice (enc:=aq) (xs:=[dz nm (next+1)]) (gQ:=[.tmp 39]) w7 rfl rfl rfl rfl rfl (by intro v hv;simp only[List.mem_singleton]at hv;subst hv;rfl) (by intro x hx;simp only[List.mem_singleton]at hx;subst hx;rfl) rfl (by decide) rfl (fun vA zI ey=> ?_)
      refine OT.nil (.any (.op (fuel:=4) 4 kr rfl sl (.call Tryz.call74 rfl rfl rfl rfl (yF hr.there.there.there.there hl) ?_)))
      rintro xe ux ⟨VT,rfl,KR⟩
      refine OT.nil (.any (.op (fuel:=3) 7 kr rfl sl ?_))
      refine OT.append hT w7 rfl rfl rfl rfl pl KR (by first|exact ey.row|exact ey.row.there) (kq _) (by simp only[List.length_cons,List.length_nil];omega) rfl (fun CK KU xO=> ?_)
      obtain⟨KV,KW,KX⟩:=(xO.row (hs:=hs)).len
      subst KX
      refine OT.nil (.any (.take (fuel:=2) hT 8 rfl rfl kr kr kr rfl (gB (cs:=[.int .i64 (next+1),.slice KV (xs++[dz nm (next+1)]).length KW]) hT rfl Tryz.zeroValue94 rfl rfl) rfl (.op (fuel:=1) 9 kr rfl sl (.ag hT rfl rfl rfl rfl pl rfl rfl rfl (.inl (Nat.le_refl _)) ?_))))
      refine OT.nil (.any (.takes (fuel:=0) hT [10] kr kr rfl (.done kr sl (.seq (.ret (.of (rs:=[.cell 4 94,.tmp 5]) [_,_] (KU::hs) rfl (.cell rfl (Ld.af hT rfl hz rfl) (.tmp rfl .nil)) sl ?_))))))
      try dsimp only[one]
      rw[<-hres]
      exact⟨_,_,rfl,rfl,xO⟩
end Go.Proofs.YtihpkgmfkbkffaaGreat.Sx
end
