/- Part 7 of what the proofs of these rest on: All. -/
import Derived.Test.YtihpkgmfkbkffaaGreatYF
import Derived.Test.YtihpkgmfkbkffaaGreatYC
import Derived.Test.YtihpkgmfkbkffaaGreatYB
import Derived.Test.YtihpkgmfkbkffaaGreatYD
set_option linter.unusedVariables false
set_option linter.unusedSimpArgs false
set_option linter.unusedSectionVars false
section
namespace Go.Proofs.YtihpkgmfkbkffaaGreat.Sx
open Go Go.Sx Go.Pl
variable[aq]
omit [aq] in
theorem tZ(x:Cell):dy (aj x)=true:=rfl
set_option maxHeartbeats 4000000 in
set_option maxRecDepth 100000 in
theorem zk{cs:List Value}{n:Nd}{hs:List Chunk}(h:fJ hs cs n)(hlc:n.cells.length<=1000000)(hlk:n.keys.length<=1000000)(vS:n.kids.length<=1000000):ax Tryz.prog 138 [.agg ⟨cs⟩] hs (fun v' hs'=>v'= .bool (decide (cQ n))/\hs=hs'):=by
 refine ax.enter 114 Tryz.func138 rfl Tryz.ntmps138 rfl ?_
 obtain⟨vc,vk,vi,rfl,hc,hk,hi⟩:=h.is
 obtain⟨ac,cc,e1⟩:=hc.len
 obtain⟨ak,ck,e2⟩:=hk.len
 obtain⟨ai,ci,e3⟩:=hi.len
 subst e1 e2 e3
 refine TT.seq (.region (.box rfl rfl rfl (fun b_1=> ?_)))
 refine OT.U hT 1 rfl (.nil (.seq (.seq (.seq (.region (.U hT 1 rfl (.load rfl rfl (Ld.slc hT rfl hz rfl) rfl ?_)))))))
 refine OT.U hT 2 rfl (.nil (.seq (.block (.loop (ι:=Nat) (fun j=>(j)<=n.cells.length/\(0<(j)->n.leaf=true)/\(∀c∈n.cells.take (j),aA c=true)/\rising ((n.cells.take (j)).map Cell.key)) (fun j=>n.cells.length-(j)) (fun j=>[(1,.pointer (some ⟨b_1,0,none⟩)),(10,.slice ac n.cells.length cc),(11,.int .i64 (n.cells.length:Nat)),(12,.int .i64 ((j):Nat))]) (fun j=>[(b_1,blk [.bool n.leaf,.slice ac n.cells.length cc,.slice ak n.keys.length ck,.slice ai n.kids.length ci] 159 (0,0))]::hs) (0) ?_ (aa.cons rfl (aa.cons rfl (aa.cons rfl (aa.cons rfl (aa.nil _))))) sl ?_))))
 . exact⟨by omega,by omega,by simp,by simp[rising]⟩
 rintro i ⟨hin,hlf,yp,vN⟩
 show TT _ _ _ [(1,.pointer (some ⟨b_1,0,none⟩)),(10,.slice ac n.cells.length cc),(11,.int .i64 (n.cells.length:Nat)),(12,.int .i64 (i:Nat))] ([(b_1,blk [.bool n.leaf,.slice ac n.cells.length cc,.slice ak n.keys.length ck,.slice ai n.kids.length ci] 159 (0,0))]::hs)
 refine TT.seq (.region (.U hT 1 rfl (.nil (.seq (.seq (.cond rfl (fun gm=> ?_) (fun gm=> ?_)))))))
 .
  have gm:=of_decide_eq_true gm
  obtain⟨x,hx⟩:=nth (l:=n.cells) (i:=i) (by omega)
  refine TT.skip (.seq (.seq (.block (.seq (.region (.U hT 1 rfl (.index hT rfl rfl rfl rfl hc.there (by omega) (by rw[Int.toNat_natCast];exact hx) rfl (fun Ia q_=> ?_))))))))
  refine OT.load rfl rfl (q_.cy hT rfl) rfl (.alloc Tryz.zeroValue113 rfl rfl (fun nG=> ?_))
  refine OT.U hT 1 rfl (.ag hT rfl rfl rfl rfl pl (by rfl) rfl (tZ x) (.inl (Nat.le_refl _)) ?_)
  refine OT.nil (.seq (.seq (.draw (([(nG,blk (aj x) 113 (0,0))]::[(b_1,blk [.bool n.leaf,.slice ac n.cells.length cc,.slice ak n.keys.length ck,.slice ai n.kids.length ci] 159 (0,0))]::hs)) mixed (.takes (fuel:=23) hT [0] kr kr rfl (.take (fuel:=22) hT 1 rfl rfl kr kr kr rfl (.load rfl (Ld.one hT rfl hz rfl)) rfl ?_)))))
  refine AT.takes (fuel:=20) hT [2,3] kr kr rfl (.split 20 rfl (fun Db=> ?_) (fun Db=> ?_))
  .
   have yS:n.leaf=false:=by simpa using Db
   refine AT.takes (fuel:=0) hT [4,5,6,7,8,9,10,11,12,13,14,15,16,17,18,19,20,21,22,23] kr kr rfl (.done kr sl (.seq (.cond_true rfl (.seq (.region (.U hT 1 rfl (.nil (.seq (.ret (.of (rs:=[.tmp 2]) [_] hs rfl (.tmp rfl .nil) sl ?_))))))))))
   try dsimp only[one]
   refine⟨congrArg Value.bool (decide_eq_false fun hm=> ?_).symm,rfl⟩
   have:=(rq hm hx).1;rw[yS]at this;cases this
  .
   have nB:n.leaf=true:=by simpa using Db
   refine AT.take (fuel:=19) hT 4 rfl rfl kr kr kr rfl (.load rfl (Ld.af hT rfl hz rfl)) rfl ?_
   refine AT.op (fuel:=18) 5 kr rfl sl (.call Tryz.call99 rfl rfl rfl rfl (uD) ?_)
   rintro yJ qQ ⟨rfl,rfl⟩
   refine OT.nil (.any (.takes (fuel:=15) hT [6,7,8] kr kr rfl (.split 25 rfl (fun sx=> ?_) (fun sx=> ?_))))
   .
    have hm0:aA x=false:=by simpa using sx
    refine AT.takes (fuel:=0) hT [9,10,11,12,13,14,15,16,17,18,19,20,21,22,23] kr kr rfl (.done kr sl (.seq (.cond_true rfl (.seq (.region (.U hT 1 rfl (.nil (.seq (.ret (.of (rs:=[.tmp 2]) [_] hs rfl (.tmp rfl .nil) sl ?_))))))))))
    try dsimp only[one]
    refine⟨congrArg Value.bool (decide_eq_false fun hm=> ?_).symm,rfl⟩
    have:=(rq hm hx).2.1;rw[hm0]at this;cases this
   .
    have oz:aA x=true:=by simpa using sx
    refine AT.takes (fuel:=12) hT [9,10,11] kr kr rfl (.split 28 rfl (fun Lr=> ?_) (fun Lr=> ?_))
    .
     have FW:0<i:=by have:=of_decide_eq_true Lr;omega
     obtain⟨p,hp⟩:=nth (l:=n.cells) (i:=i-1) (by omega)
     refine AT.takes (fuel:=8) hT [12,14,15,19] kr kr rfl (.take (fuel:=7) hT 13 rfl rfl kr kr kr rfl (.load rfl (Ld.slc hT rfl hz rfl)) rfl ?_)
     refine AT.take (fuel:=6) hT 20 rfl rfl kr kr kr rfl (.load rfl (Ld.one hT rfl hz rfl)) rfl ?_
     refine AT.eH 32 rfl (v:= .int .i64 ((i-1:Nat):Int)) (int_eq (by rw[wrap_i64 (by omega) (by omega)];omega)) (.index (fuel:=5) hT 16 rfl kr kr kr rfl rfl rfl rfl hc.there.there (by omega) (by rw[Int.toNat_natCast];exact hp) rfl (fun SD Kw=> ?_))
     obtain⟨SE,SF,rfl,GW⟩:=Kw.at (P:=Tryz.prog)
     refine AT.takes (fuel:=4) hT [17] kr kr rfl (.take (fuel:=3) hT 18 rfl rfl kr kr kr rfl (.load rfl (GW hT rfl rfl)) rfl (.takes (fuel:=0) hT [21,22,23] kr kr rfl (.done kr sl (.seq (.cond rfl (fun Hw=> ?_) (fun Hw=> ?_))))))
     .
      refine TT.seq (.region (.U hT 1 rfl (.nil (.seq (.ret (.of (rs:=[.tmp 2]) [_] hs rfl (.tmp rfl .nil) sl ?_))))))
      try dsimp only[one]
      refine⟨congrArg Value.bool (decide_eq_false fun hm=> ?_).symm,rfl⟩
      have h9:=(rq hm hx).2.2 FW p hp
      have Hw:(!bY p.key x.key)=true:=Hw
      rw[h9]at Hw;cases Hw
     .
      refine TT.skip (.blk (.seq (.region (.U hT 2 rfl (.nil (.loop (i+1) ?_ ?_ (aa.cons rfl (aa.cons rfl (aa.cons rfl (aa.aD rfl (by(try dsimp only);exact(int_eq (by rw[wrap_i64 (by omega) (by omega)];omega))) (aa.nil _))))) sl))))))
      . refine⟨by omega,fun _=>nB,?_,(eP hx).2 ⟨vN,fun _ q hq=> ?_⟩⟩
        . rw[take_succ hx]
          intro c j4
          rcases List.mem_append.1 j4 with j4|j4
          . exact yp c j4
          . rw[List.mem_singleton]at j4;subst j4;exact oz
        . rw[hp]at hq;cases hq
          have Hw:(!bY p.key x.key)=false:=Hw
          simpa using Hw
      . omega
    .
     have FW:i=0:=by have:=of_decide_eq_false Lr;omega
     refine AT.takes (fuel:=0) hT [12,13,14,15,16,17,18,19,20,21,22,23] kr kr rfl (.done kr sl (.seq (.cond_false rfl (.skip (.blk (.seq (.region (.U hT 2 rfl (.nil (.loop (i+1) ?_ ?_ (aa.cons rfl (aa.cons rfl (aa.cons rfl (aa.aD rfl (by(try dsimp only);exact(int_eq (by rw[wrap_i64 (by omega) (by omega)];omega))) (aa.nil _))))) sl))))))))))
     . refine⟨by omega,fun _=>nB,?_,(eP hx).2 ⟨vN,fun h0=>by omega⟩⟩
       rw[take_succ hx]
       intro c j4
       rcases List.mem_append.1 j4 with j4|j4
       . exact yp c j4
       . rw[List.mem_singleton]at j4;subst j4;exact oz
     . omega
 .
  have gm:=of_decide_eq_false gm
  obtain rfl:i=n.cells.length:=by omega
  rw[List.take_length]at yp vN
  refine TT.exit (.seq (.loop (.here (.seq (.seq (.seq (.region (.U hT 1 rfl (.load rfl rfl (Ld.one hT rfl hz rfl) rfl ?_)))))))))
  refine OT.nil (.seq (.cond rfl (fun j5=> ?_) (fun j5=> ?_)))
  .
   refine TT.seq (.region (.U hT 1 rfl (.load rfl rfl (Ld.slc hT rfl hz rfl) rfl ?_)))
   refine OT.U hT 3 rfl (.split 48 rfl (fun Pf=> ?_) (fun Pf=> ?_))
   .
    have LN:n.keys.length=0:=by simpa using Pf
    refine OT.U hT 1 rfl (.load rfl rfl (Ld.slc hT rfl hz rfl) rfl ?_)
    refine OT.U hT 4 rfl (.nil (.seq (.ret (.of (rs:=[.tmp 2]) [_] hs rfl (.tmp rfl .nil) sl ?_))))
    try dsimp only[one]
    refine⟨congrArg Value.bool ?_,rfl⟩
    rw[Bool.eq_iff_iff,beq_iff_eq,decide_eq_true_eq,b5 j5]
    constructor
    . intro h;exact⟨List.length_eq_zero_iff.1 LN,List.length_eq_zero_iff.1 (by omega),yp,vN⟩
    . intro h;rw[h.2.1];rfl
   .
    have LN:n.keys.length≠0:=by simpa using Pf
    refine OT.U hT 6 rfl (.nil (.seq (.ret (.of (rs:=[.tmp 2]) [_] hs rfl (.tmp rfl .nil) sl ?_))))
    try dsimp only[one]
    refine⟨congrArg Value.bool (decide_eq_false fun hm=> ?_).symm,rfl⟩
    exact LN (by rw[((b5 j5).1 hm).1];rfl)
  .
   have hce:n.cells=[]:=by
    cases e:n.cells with
    |nil=>rfl
    |cons a l=>have:=hlf (by rw[e];simp);rw[j5]at this;cases this
   refine TT.skip (.seq (.seq (.seq (.region (.U hT 1 rfl (.load rfl rfl (Ld.slc hT rfl hz rfl) rfl ?_))))))
   refine OT.U hT 2 rfl (.nil (.seq (.block (.loop (ι:=Nat) (fun j=>(j)<=n.keys.length/\(∀c∈n.keys.take (j),bp c=true)/\rising ((n.keys.take (j)).map id)) (fun j=>n.keys.length-(j)) (fun j=>[(1,.pointer (some ⟨b_1,0,none⟩)),(55,.slice ak n.keys.length ck),(56,.int .i64 (n.keys.length:Nat)),(57,.int .i64 ((j):Nat))]) (fun j=>[(b_1,blk [.bool n.leaf,.slice ac n.cells.length cc,.slice ak n.keys.length ck,.slice ai n.kids.length ci] 159 (0,0))]::hs) (0) ?_ (aa.cons rfl (aa.cons rfl (aa.cons rfl (aa.cons rfl (aa.nil _))))) sl ?_))))
   . exact⟨by omega,by simp,by simp[rising]⟩
   rintro i ⟨hin,hmk,qh⟩
   show TT _ _ _ [(1,.pointer (some ⟨b_1,0,none⟩)),(55,.slice ak n.keys.length ck),(56,.int .i64 (n.keys.length:Nat)),(57,.int .i64 (i:Nat))] ([(b_1,blk [.bool n.leaf,.slice ac n.cells.length cc,.slice ak n.keys.length ck,.slice ai n.kids.length ci] 159 (0,0))]::hs)
   refine TT.seq (.region (.U hT 1 rfl (.nil (.seq (.seq (.cond rfl (fun L0=> ?_) (fun L0=> ?_)))))))
   .
    have L0:=of_decide_eq_true L0
    obtain⟨x,hx⟩:=nth (l:=n.keys) (i:=i) (by omega)
    refine TT.skip (.seq (.seq (.block (.seq (.region (.U hT 1 rfl (.index hT rfl rfl rfl rfl hk.there (by omega) (by rw[Int.toNat_natCast];exact hx) rfl (fun SG Kx=> ?_))))))))
    refine OT.load rfl rfl (Kx.ct hT rfl rfl) rfl (.U hT 2 rfl (.nil (.seq (.seq (.region (.U hT 1 rfl (.call Tryz.call51 rfl rfl rfl rfl (zj) ?_)))))))
    rintro VS SH ⟨rfl,rfl⟩
    refine OT.U hT 2 rfl (.split 65 rfl (fun Ph=> ?_) (fun Ph=> ?_))
    .
     have hm0:bp x=false:=by simpa using Ph
     refine OT.U hT 13 rfl (.nil (.seq (.cond_true rfl (.seq (.region (.U hT 1 rfl (.nil (.seq (.ret (.of (rs:=[.tmp 2]) [_] hs rfl (.tmp rfl .nil) sl ?_))))))))))
     try dsimp only[one]
     refine⟨congrArg Value.bool (decide_eq_false fun hm=> ?_).symm,rfl⟩
     have:=(A8 hm j5 hx).1;rw[hm0]at this;cases this
    .
     have oz:bp x=true:=by simpa using Ph
     refine OT.U hT 3 rfl (.split 68 rfl (fun Pj=> ?_) (fun Pj=> ?_))
     .
      have FW:0<i:=by have:=of_decide_eq_true Pj;omega
      obtain⟨p,hp⟩:=nth (l:=n.keys) (i:=i-1) (by omega)
      refine OT.U hT 1 rfl (.load rfl rfl (Ld.slc hT rfl hz rfl) rfl ?_)
      refine OT.U hT 2 rfl (.eH 72 rfl (v:= .int .i64 ((i-1:Nat):Int)) (int_eq (by rw[wrap_i64 (by omega) (by omega)];omega)) (.index hT rfl rfl rfl rfl hk.there (by omega) (by rw[Int.toNat_natCast];exact hp) rfl (fun SI Ky=> ?_)))
      refine OT.load rfl rfl (Ky.ct hT rfl rfl) rfl (.U hT 4 rfl (.nil (.seq (.cond rfl (fun Hx=> ?_) (fun Hx=> ?_)))))
      .
       refine TT.seq (.region (.U hT 1 rfl (.nil (.seq (.ret (.of (rs:=[.tmp 2]) [_] hs rfl (.tmp rfl .nil) sl ?_))))))
       try dsimp only[one]
       refine⟨congrArg Value.bool (decide_eq_false fun hm=> ?_).symm,rfl⟩
       have h9:=(A8 hm j5 hx).2 FW p hp
       have Hx:(!bY p x)=true:=Hx
       rw[h9]at Hx;cases Hx
      .
       refine TT.skip (.blk (.seq (.region (.U hT 2 rfl (.nil (.loop (i+1) ?_ ?_ (aa.cons rfl (aa.cons rfl (aa.cons rfl (aa.aD rfl (by(try dsimp only);exact(int_eq (by rw[wrap_i64 (by omega) (by omega)];omega))) (aa.nil _))))) sl))))))
       . refine⟨by omega,?_,(eP hx).2 ⟨qh,fun _ q hq=> ?_⟩⟩
         . rw[take_succ hx]
           intro c j4
           rcases List.mem_append.1 j4 with j4|j4
           . exact hmk c j4
           . rw[List.mem_singleton]at j4;subst j4;exact oz
         . rw[hp]at hq;cases hq
           have Hx:(!bY p x)=false:=Hx
           simpa using Hx
       . omega
     .
      have FW:i=0:=by have:=of_decide_eq_false Pj;omega
      refine OT.U hT 10 rfl (.nil (.seq (.cond_false rfl (.skip (.blk (.seq (.region (.U hT 2 rfl (.nil (.loop (i+1) ?_ ?_ (aa.cons rfl (aa.cons rfl (aa.cons rfl (aa.aD rfl (by(try dsimp only);exact(int_eq (by rw[wrap_i64 (by omega) (by omega)];omega))) (aa.nil _))))) sl))))))))))
      . refine⟨by omega,?_,(eP hx).2 ⟨qh,fun h0=>by omega⟩⟩
        rw[take_succ hx]
        intro c j4
        rcases List.mem_append.1 j4 with j4|j4
        . exact hmk c j4
        . rw[List.mem_singleton]at j4;subst j4;exact oz
      . omega
   .
    have L0:=of_decide_eq_false L0
    obtain rfl:i=n.keys.length:=by omega
    rw[List.take_length]at hmk qh
    rw[List.map_id]at qh
    refine TT.exit (.seq (.loop (.here (.seq (.seq (.seq (.region (.U hT 1 rfl (.load rfl rfl (Ld.slc hT rfl hz rfl) rfl ?_)))))))))
    refine OT.U hT 2 rfl (.nil (.seq (.block (.loop (ι:=Nat) (fun j=>(j)<=n.kids.length/\∀c∈n.kids.take (j),2<=c/\c<32) (fun j=>n.kids.length-(j)) (fun j=>[(1,.pointer (some ⟨b_1,0,none⟩)),(81,.slice ai n.kids.length ci),(82,.int .i64 (n.kids.length:Nat)),(83,.int .i64 ((j):Nat))]) (fun j=>[(b_1,blk [.bool n.leaf,.slice ac n.cells.length cc,.slice ak n.keys.length ck,.slice ai n.kids.length ci] 159 (0,0))]::hs) (0) ?_ (aa.cons rfl (aa.cons rfl (aa.cons rfl (aa.cons rfl (aa.nil _))))) sl ?_))))
    . exact⟨by omega,by simp⟩
    rintro i ⟨hin,Ls⟩
    show TT _ _ _ [(1,.pointer (some ⟨b_1,0,none⟩)),(81,.slice ai n.kids.length ci),(82,.int .i64 (n.kids.length:Nat)),(83,.int .i64 (i:Nat))] ([(b_1,blk [.bool n.leaf,.slice ac n.cells.length cc,.slice ak n.keys.length ck,.slice ai n.kids.length ci] 159 (0,0))]::hs)
    refine TT.seq (.region (.U hT 1 rfl (.nil (.seq (.seq (.cond rfl (fun L1=> ?_) (fun L1=> ?_)))))))
    .
     have L1:=of_decide_eq_true L1
     obtain⟨x,hx⟩:=nth (l:=n.kids) (i:=i) (by omega)
     refine TT.skip (.seq (.seq (.block (.seq (.region (.index hT rfl rfl rfl rfl hi.there (by omega) (by rw[Int.toNat_natCast];exact hx) rfl (fun SJ Kz=> ?_)))))))
     refine OT.load rfl rfl (Kz.ct hT rfl rfl) rfl (.U hT 1 rfl (.nil (.seq (.seq (.region (.U hT 3 rfl (.split 89 rfl (fun Pk=> ?_) (fun Pk=> ?_))))))))
     .
      have OP:x<2:=of_decide_eq_true Pk
      refine OT.U hT 3 rfl (.nil (.seq (.cond_true rfl (.seq (.region (.U hT 1 rfl (.nil (.seq (.ret (.of (rs:=[.tmp 2]) [_] hs rfl (.tmp rfl .nil) sl ?_))))))))))
      try dsimp only[one]
      refine⟨congrArg Value.bool (decide_eq_false fun hm=> ?_).symm,rfl⟩
      have:=((aS j5).1 hm).2.2.2.1 x (List.mem_of_getElem? hx);omega
     .
      have OP:¬x<2:=of_decide_eq_false Pk
      refine OT.U hT 3 rfl (.nil (.seq (.cond rfl (fun Pm=> ?_) (fun Pm=> ?_))))
      .
       have Oh:x>=32:=of_decide_eq_true Pm
       refine TT.seq (.region (.U hT 1 rfl (.nil (.seq (.ret (.of (rs:=[.tmp 2]) [_] hs rfl (.tmp rfl .nil) sl ?_))))))
       try dsimp only[one]
       refine⟨congrArg Value.bool (decide_eq_false fun hm=> ?_).symm,rfl⟩
       have:=((aS j5).1 hm).2.2.2.1 x (List.mem_of_getElem? hx);omega
      .
       have Oh:¬x>=32:=of_decide_eq_false Pm
       refine TT.skip (.blk (.seq (.region (.U hT 2 rfl (.nil (.loop (i+1) ?_ ?_ (aa.cons rfl (aa.cons rfl (aa.cons rfl (aa.aD rfl (by(try dsimp only);exact(int_eq (by rw[wrap_i64 (by omega) (by omega)];omega))) (aa.nil _))))) sl))))))
       . refine⟨by omega,?_⟩
         rw[take_succ hx]
         intro c j4
         rcases List.mem_append.1 j4 with j4|j4
         . exact Ls c j4
         . rw[List.mem_singleton]at j4;subst j4;omega
       . omega
    .
     have L1:=of_decide_eq_false L1
     obtain rfl:i=n.kids.length:=by omega
     rw[List.take_length]at Ls
     refine TT.exit (.seq (.loop (.here (.seq (.seq (.region (.U hT 1 rfl (.load rfl rfl (Ld.slc hT rfl hz rfl) rfl ?_))))))))
     refine OT.U hT 3 rfl (.split 98 rfl (fun BO=> ?_) (fun BO=> ?_))
     .
      have qC:(n.kids.length:Int)>=1:=of_decide_eq_true BO
      refine OT.U hT 1 rfl (.load rfl rfl (Ld.slc hT rfl hz rfl) rfl ?_)
      refine OT.U hT 4 rfl (.split 104 rfl (fun JH=> ?_) (fun JH=> ?_))
      .
       have hk2:(n.kids.length:Int)<=32:=of_decide_eq_true JH
       refine OT.U hT 1 rfl (.load rfl rfl (Ld.slc hT rfl hz rfl) rfl ?_)
       refine OT.U hT 2 rfl (.load rfl rfl (Ld.slc hT rfl hz rfl) rfl ?_)
       refine OT.U hT 5 rfl (.nil (.seq (.ret (.of (rs:=[.tmp 2]) [_] hs rfl (.tmp rfl .nil) sl ?_))))
       try dsimp only[one]
       refine⟨congrArg Value.bool ?_,rfl⟩
       rw[wrap_i64 (by omega) (by omega),Bool.eq_iff_iff,beq_iff_eq,decide_eq_true_eq,aS j5]
       constructor
       . intro h;exact⟨hce,hmk,qh,Ls,by omega,by omega,by omega⟩
       . intro h;omega
      .
       have hk2:¬(n.kids.length:Int)<=32:=of_decide_eq_false JH
       refine OT.U hT 10 rfl (.nil (.seq (.ret (.of (rs:=[.tmp 2]) [_] hs rfl (.tmp rfl .nil) sl ?_))))
       try dsimp only[one]
       refine⟨congrArg Value.bool (decide_eq_false fun hm=> ?_).symm,rfl⟩
       have:=((aS j5).1 hm).2.2.2.2.2.1;omega
     .
      have qC:¬(n.kids.length:Int)>=1:=of_decide_eq_false BO
      refine OT.U hT 16 rfl (.nil (.seq (.ret (.of (rs:=[.tmp 2]) [_] hs rfl (.tmp rfl .nil) sl ?_))))
      try dsimp only[one]
      refine⟨congrArg Value.bool (decide_eq_false fun hm=> ?_).symm,rfl⟩
      have:=((aS j5).1 hm).2.2.2.2.1;omega
end Go.Proofs.YtihpkgmfkbkffaaGreat.Sx
end
section
namespace Go.Proofs.YtihpkgmfkbkffaaGreat.Sx
open Go Go.Sx Go.Pl
variable[aq]
set_option maxHeartbeats 4000000 in
set_option maxRecDepth 100000 in
theorem xp{cs:List Value}{n:Nd}{hs:List Chunk}(h:fJ hs cs n)(hm:cQ n)(hlc:n.cells.length<=1000)(hf:∀c∈n.cells,c.val.f<2^64/\c.new.f<2^64):ax Tryz.prog 173 [.agg ⟨cs⟩] hs (fun v' hs'=>∃K,hs'=K::hs/\Own Go.Sx.bD 1 5 v' (b6 n) K):=by
 refine ax.enter 58 Tryz.func173 rfl Tryz.ntmps173 rfl ?_
 obtain⟨vc,vk,vi,rfl,hc,hk,hi⟩:=h.is
 obtain⟨ac,cc,e1⟩:=hc.len
 obtain⟨ak,ck,e2⟩:=hk.len
 obtain⟨ai,ci,e3⟩:=hi.len
 subst e1 e2 e3
 refine TT.seq (.region (.box rfl rfl rfl (fun b_1=> ?_)))
 refine OT.U hT 1 rfl (.nil (.seq (.seq (.seq (.region (.U hT 1 rfl (.load rfl rfl (Ld.one hT rfl hz rfl) rfl ?_)))))))
 refine OT.nil (.seq (.cond rfl (fun ew=> ?_) (fun ew=> ?_)))
 .
  obtain⟨_,_,yp,_⟩:=(b5 ew).1 hm
  have vO:=eE (n:=n.cells.length) (by omega) (by omega)
  refine TT.seq (.region ?_)
  refine OT.buildSlice (enc:=Go.Sx.bD) (xs:=[(1:UInt8)]) (ij:=[.const (.int .u8 (1))]) lq rfl rfl rfl rfl rfl (by simp[Value.cells]) (fun _ _=>rfl) rfl (by decide) rfl (fun yI Ge AH=> ?_)
  refine OT.U hT 1 rfl (.load rfl rfl (Ld.slc hT rfl hz rfl) rfl ?_)
  refine OT.U hT 1 rfl (.call Tryz.call76 rfl rfl rfl rfl (ax.pull pl (lD AH (by omega) (by omega) (by decide))) ?_)
  rintro BH AJ ⟨K0,rfl,Pn⟩
  refine OT.U hT 1 rfl (.nil (.seq (.seq (.seq (.region (.U hT 1 rfl (.load rfl rfl (Ld.slc hT rfl hz rfl) rfl ?_)))))))
  refine OT.U hT 2 rfl (.nil (.seq (.block (.loop (ι:=Nat×Value×Chunk) (fun j=>(j.1)<=n.cells.length/\Own Go.Sx.bD 1 5 (j.2.1) ((1::put n.cells.length)++(n.cells.take (j.1)).flatMap au) (j.2.2)) (fun j=>n.cells.length-(j.1)) (fun j=>[(1,.pointer (some ⟨b_1,0,none⟩)),(3,(j.2.1)),(19,.slice ac n.cells.length cc),(20,.int .i64 (n.cells.length:Nat)),(21,.int .i64 ((j.1):Nat))]) (fun j=>(j.2.2)::[(b_1,blk [.bool n.leaf,.slice ac n.cells.length cc,.slice ak n.keys.length ck,.slice ai n.kids.length ci] 159 (0,0))]::hs) (0,_,K0) ?_ (aa.cons rfl (aa.cons rfl (aa.cons rfl (aa.cons rfl (aa.cons rfl (aa.nil _)))))) sl ?_))))
  . dsimp only
    exact⟨by omega,by rw[List.take_zero];simpa using Pn⟩
  rintro⟨i,w,K⟩ hI
  dsimp only at hI
  obtain⟨hin,ho⟩:=hI
  show TT _ _ _ [(1,.pointer (some ⟨b_1,0,none⟩)),(3,w),(19,.slice ac n.cells.length cc),(20,.int .i64 (n.cells.length:Nat)),(21,.int .i64 (i:Nat))] (K::[(b_1,blk [.bool n.leaf,.slice ac n.cells.length cc,.slice ak n.keys.length ck,.slice ai n.kids.length ci] 159 (0,0))]::hs)
  have hfl:((n.cells.take i).flatMap au).length<=67*i:=by
   have:=nP (f:=au) (b:=67) (l:=n.cells.take i) fun x hx=>fX (yp x (List.mem_of_mem_take hx))
   rw[List.length_take]at this;omega
  refine TT.seq (.region (.U hT 1 rfl (.nil (.seq (.seq (.cond rfl (fun l9=> ?_) (fun l9=> ?_)))))))
  .
   have l9:=of_decide_eq_true l9
   obtain⟨x,hx⟩:=nth (l:=n.cells) (i:=i) (by omega)
   have hmem:=List.mem_of_getElem? hx
   have hok:=nI (yp x hmem)
   obtain⟨Pe,C2⟩:=hf x hmem
   refine TT.skip (.seq (.seq (.block (.seq (.region (.index hT rfl rfl rfl rfl hc.there.there (by omega) (by rw[Int.toNat_natCast];exact hx) rfl (fun SK KF=> ?_)))))))
   refine OT.load rfl rfl (KF.cy hT rfl) rfl (.alloc Tryz.zeroValue113 rfl rfl (fun eM=> ?_))
   refine OT.ag hT rfl rfl rfl rfl pl (by rfl) rfl (tZ x) (.inl (Nat.le_refl _)) ?_
   refine OT.nil (.seq (.region (.U hT 1 rfl (.load rfl rfl (Ld.af hT rfl hz rfl) rfl ?_))))
   refine OT.call Tryz.call199 rfl rfl rfl rfl (ax.pull pl (Ku (x:=x) ho ⟨by have:=hok.k1;omega,by have:=hok.k1;omega⟩ ⟨by have:=hok.k2;omega,by have:=hok.k2;omega⟩ ⟨by have:=hok.aV;omega,by have:=hok.aV;omega⟩ Pe C2 (Nat.le_trans hok.key (by decide)) (Nat.le_trans hok.s1 (by decide)) (Nat.le_trans hok.s2 (by decide)) (by rw[List.length_append,List.length_cons];omega))) ?_
   rintro BF wj ⟨K2,rfl,oB⟩
   refine OT.U hT 1 rfl (.nil (.blk (.seq (.region (.U hT 2 rfl (.nil (.loop (i+1,_,K2) ?_ ?_ (aa.cons rfl (aa.cons rfl (aa.cons rfl (aa.cons rfl (aa.aD rfl (by(try dsimp only);exact(int_eq (by rw[wrap_i64 (by omega) (by omega)];omega))) (aa.nil _)))))) sl)))))))
   . dsimp only
     exact⟨by omega,by rw[lI hx,<-List.append_assoc];exact oB⟩
   . dsimp only
     omega
  .
   have l9:=of_decide_eq_false l9
   obtain rfl:i=n.cells.length:=by omega
   rw[List.take_length]at ho
   refine TT.exit (.seq (.loop (.here (.seq (.seq (.region (.U hT 2 rfl (.nil (.seq (.ret (.of (rs:=[.tmp 2]) [_] (K::hs) rfl (.tmp rfl .nil) sl ?_)))))))))))
   try dsimp only[one]
   exact⟨K,rfl,by unfold b6;rw[if_pos ew];exact ho⟩
 .
  obtain⟨_,hmk,_,Ls,_,VT,hkk⟩:=(aS ew).1 hm
  have vO:=eE (n:=n.kids.length) (by omega) (by omega)
  refine TT.skip (.seq (.seq (.region ?_)))
  refine OT.buildSlice (enc:=Go.Sx.bD) (xs:=[(2:UInt8)]) (ij:=[.const (.int .u8 (2))]) lq rfl rfl rfl rfl rfl (by simp[Value.cells]) (fun _ _=>rfl) rfl (by decide) rfl (fun yF MB AK=> ?_)
  refine OT.U hT 1 rfl (.load rfl rfl (Ld.slc hT rfl hz rfl) rfl ?_)
  refine OT.U hT 1 rfl (.call Tryz.call76 rfl rfl rfl rfl (ax.pull pl (lD AK (by omega) (by omega) (by decide))) ?_)
  rintro BG we ⟨K0,rfl,Pn⟩
  refine OT.U hT 1 rfl (.nil (.seq (.seq (.seq (.region (.U hT 1 rfl (.load rfl rfl (Ld.slc hT rfl hz rfl) rfl ?_)))))))
  refine OT.U hT 2 rfl (.nil (.seq (.block (.loop (ι:=Nat×Value×Chunk) (fun j=>(j.1)<=n.kids.length/\Own Go.Sx.bD 1 5 (j.2.1) ((2::put n.kids.length)++(n.kids.take (j.1)).flatMap put) (j.2.2)) (fun j=>n.kids.length-(j.1)) (fun j=>[(1,.pointer (some ⟨b_1,0,none⟩)),(6,(j.2.1)),(36,.slice ai n.kids.length ci),(37,.int .i64 (n.kids.length:Nat)),(38,.int .i64 ((j.1):Nat))]) (fun j=>(j.2.2)::[(b_1,blk [.bool n.leaf,.slice ac n.cells.length cc,.slice ak n.keys.length ck,.slice ai n.kids.length ci] 159 (0,0))]::hs) (0,_,K0) ?_ (aa.cons rfl (aa.cons rfl (aa.cons rfl (aa.cons rfl (aa.cons rfl (aa.nil _)))))) sl ?_))))
  . dsimp only
    exact⟨by omega,by rw[List.take_zero];simpa using Pn⟩
  rintro⟨i,w,K⟩ hI
  dsimp only at hI
  obtain⟨hin,ho⟩:=hI
  show TT _ _ _ [(1,.pointer (some ⟨b_1,0,none⟩)),(6,w),(36,.slice ai n.kids.length ci),(37,.int .i64 (n.kids.length:Nat)),(38,.int .i64 (i:Nat))] (K::[(b_1,blk [.bool n.leaf,.slice ac n.cells.length cc,.slice ak n.keys.length ck,.slice ai n.kids.length ci] 159 (0,0))]::hs)
  have hfl:((n.kids.take i).flatMap put).length<=10*i:=by
   have:=nP (f:=put) (b:=10) (l:=n.kids.take i) fun x hx=>by have:=Ls x (List.mem_of_mem_take hx);exact eE (by omega) (by omega)
   rw[List.length_take]at this;omega
  refine TT.seq (.region (.U hT 1 rfl (.nil (.seq (.seq (.cond rfl (fun Dc=> ?_) (fun Dc=> ?_)))))))
  .
   have Dc:=of_decide_eq_true Dc
   obtain⟨x,hx⟩:=nth (l:=n.kids) (i:=i) (by omega)
   have l6:=Ls x (List.mem_of_getElem? hx)
   refine TT.skip (.seq (.seq (.block (.seq (.region (.index hT rfl rfl rfl rfl hi.there.there (by omega) (by rw[Int.toNat_natCast];exact hx) rfl (fun Nv zl=> ?_)))))))
   refine OT.load rfl rfl (zl.ct hT rfl rfl) rfl (.U hT 1 rfl (.nil (.seq (.region (.U hT 2 rfl (.call Tryz.call76 rfl rfl rfl rfl (lD ho (by omega) (by omega) (by rw[List.length_append,List.length_cons];omega)) ?_))))))
   rintro vE s0 ⟨K2,rfl,oB⟩
   refine OT.U hT 1 rfl (.nil (.blk (.seq (.region (.U hT 2 rfl (.nil (.loop (i+1,_,K2) ?_ ?_ (aa.cons rfl (aa.cons rfl (aa.cons rfl (aa.cons rfl (aa.aD rfl (by(try dsimp only);exact(int_eq (by rw[wrap_i64 (by omega) (by omega)];omega))) (aa.nil _)))))) sl)))))))
   . dsimp only
     exact⟨by omega,by rw[lI hx,<-List.append_assoc];exact oB⟩
   . dsimp only
     omega
  .
   have Dc:=of_decide_eq_false Dc
   obtain rfl:i=n.kids.length:=by omega
   rw[List.take_length]at ho hfl
   refine TT.exit (.seq (.loop (.here (.seq (.seq (.seq (.region (.U hT 1 rfl (.load rfl rfl (Ld.slc hT rfl hz rfl) rfl ?_)))))))))
   refine OT.U hT 2 rfl (.nil (.seq (.block (.loop (ι:=Nat×Value×Chunk) (fun j=>(j.1)<=n.keys.length/\Own Go.Sx.bD 1 5 (j.2.1) ((2::put n.kids.length)++n.kids.flatMap put++(n.keys.take (j.1)).flatMap aQ) (j.2.2)) (fun j=>n.keys.length-(j.1)) (fun j=>[(1,.pointer (some ⟨b_1,0,none⟩)),(6,(j.2.1)),(47,.slice ak n.keys.length ck),(48,.int .i64 (n.keys.length:Nat)),(49,.int .i64 ((j.1):Nat))]) (fun j=>(j.2.2)::[(b_1,blk [.bool n.leaf,.slice ac n.cells.length cc,.slice ak n.keys.length ck,.slice ai n.kids.length ci] 159 (0,0))]::hs) (0,w,K) ?_ (aa.cons rfl (aa.cons rfl (aa.cons rfl (aa.cons rfl (aa.cons rfl (aa.nil _)))))) sl ?_))))
   . dsimp only
     exact⟨by omega,by rw[List.take_zero];simpa using ho⟩
   rintro⟨i,w,K⟩ hI
   dsimp only at hI
   obtain⟨hin,ho⟩:=hI
   show TT _ _ _ [(1,.pointer (some ⟨b_1,0,none⟩)),(6,w),(47,.slice ak n.keys.length ck),(48,.int .i64 (n.keys.length:Nat)),(49,.int .i64 (i:Nat))] (K::[(b_1,blk [.bool n.leaf,.slice ac n.cells.length cc,.slice ak n.keys.length ck,.slice ai n.kids.length ci] 159 (0,0))]::hs)
   have UC:((n.keys.take i).flatMap aQ).length<=27*i:=by
    have:=nP (f:=aQ) (b:=27) (l:=n.keys.take i) fun x hx=>by
     have MC:=hmk x (List.mem_of_mem_take hx)
     unfold bp at MC
     rw[Bool.and_eq_true,decide_eq_true_eq,decide_eq_true_eq]at MC
     rw[ei]
     have:=eE (n:=x.size) (by omega) (by omega)
     omega
    rw[List.length_take]at this;omega
   refine TT.seq (.region (.U hT 1 rfl (.nil (.seq (.seq (.cond rfl (fun gr=> ?_) (fun gr=> ?_)))))))
   .
    have gr:=of_decide_eq_true gr
    obtain⟨x,hx⟩:=nth (l:=n.keys) (i:=i) (by omega)
    have Hy:=hmk x (List.mem_of_getElem? hx)
    unfold bp at Hy
    rw[Bool.and_eq_true,decide_eq_true_eq,decide_eq_true_eq]at Hy
    refine TT.skip (.seq (.seq (.block (.seq (.region (.index hT rfl rfl rfl rfl hk.there.there (by omega) (by rw[Int.toNat_natCast];exact hx) rfl (fun SL KG=> ?_)))))))
    refine OT.load rfl rfl (KG.ct hT rfl rfl) rfl (.U hT 1 rfl (.nil (.seq (.region (.U hT 2 rfl (.call Tryz.call77 rfl rfl rfl rfl (k6 ho (Nat.le_trans Hy.2 (by decide)) (by rw[List.length_append,List.length_append,List.length_cons];omega)) ?_))))))
    rintro VU SM ⟨K2,rfl,oB⟩
    refine OT.U hT 1 rfl (.nil (.blk (.seq (.region (.U hT 2 rfl (.nil (.loop (i+1,_,K2) ?_ ?_ (aa.cons rfl (aa.cons rfl (aa.cons rfl (aa.cons rfl (aa.aD rfl (by(try dsimp only);exact(int_eq (by rw[wrap_i64 (by omega) (by omega)];omega))) (aa.nil _)))))) sl)))))))
    . dsimp only
      exact⟨by omega,by rw[lI hx,<-List.append_assoc];exact oB⟩
    . dsimp only
      omega
   .
    have gr:=of_decide_eq_false gr
    obtain rfl:i=n.keys.length:=by omega
    rw[List.take_length]at ho
    refine TT.exit (.seq (.loop (.here (.seq (.seq (.region (.U hT 2 rfl (.nil (.seq (.ret (.of (rs:=[.tmp 2]) [_] (K::hs) rfl (.tmp rfl .nil) sl ?_)))))))))))
    try dsimp only[one]
    exact⟨K,rfl,by unfold b6;rw[if_neg (by rw[ew];simp)];exact ho⟩
omit [aq] in
theorem GX{n:Nd}(h:¬cQ n):bS n=([],1):=by unfold bS;rw[if_neg h]
omit [aq] in
theorem Fp{n:Nd}(h:cQ n)(h2:256<(b6 n).length):bS n=([],4):=by unfold bS;rw[if_pos h,if_pos h2]
omit [aq] in
theorem KH{n:Nd}(h:cQ n)(h2:¬256<(b6 n).length):bS n=(b6 n++List.replicate (256-(b6 n).length) 0,0):=by unfold bS;rw[if_pos h,if_neg h2]
set_option maxHeartbeats 1000000 in
set_option maxRecDepth 100000 in
theorem Bo{cs:List Value}{n:Nd}{hs:List Chunk}(h:fJ hs cs n)(hlc:n.cells.length<=1000)(hlk:n.keys.length<=1000000)(vS:n.kids.length<=1000000)(hf:∀c∈n.cells,c.val.f<2^64/\c.new.f<2^64):ax Tryz.prog 178 [.agg ⟨cs⟩] hs (fun v' hs'=>∃K,hs'=K::hs/\v'= .int .i64 (qY n:Nat)):=by
 refine ax.enter 9 Tryz.func178 rfl Tryz.ntmps178 rfl ?_
 obtain⟨vc,vk,vi,rfl,hc,hk,hi⟩:=h.is
 obtain⟨ac,cc,e1⟩:=hc.len
 obtain⟨ak,ck,e2⟩:=hk.len
 obtain⟨ai,ci,e3⟩:=hi.len
 subst e1 e2 e3
 have h:fJ hs [.bool n.leaf,.slice ac n.cells.length cc,.slice ak n.keys.length ck,.slice ai n.kids.length ci] n:=⟨_,_,_,rfl,hc,hk,hi⟩
 refine TT.seq (.region (.box rfl rfl rfl (fun b_1=> ?_)))
 refine OT.U hT 1 rfl (.nil (.seq (.seq (.seq (.region (.load rfl rfl (Ld.af hT rfl hz rfl) rfl ?_))))))
 refine OT.call Tryz.call138 rfl rfl rfl rfl (zk (h.mono fun _ _=> .there) (by omega) hlk vS) ?_
 rintro O_ Jx ⟨rfl,rfl⟩
 refine OT.U hT 1 rfl (.nil (.seq (.cond rfl (fun c5=> ?_) (fun c5=> ?_))))
 .
  have hm:¬cQ n:=by simpa using c5
  refine TT.seq (.region (.U hT 1 rfl (.nil (.seq (.ret (.of (rs:=[.tmp 2]) [_] ([]::hs) rfl (.tmp rfl .nil) sl ?_))))))
  try dsimp only[one]
  exact⟨[],rfl,by unfold qY;rw[if_neg hm];rfl⟩
 .
  have hm:cQ n:=by simpa using c5
  refine TT.skip (.seq (.seq (.region (.load rfl rfl (Ld.af hT rfl hz rfl) rfl ?_))))
  refine OT.call Tryz.call173 rfl rfl rfl rfl (xp (h.mono fun _ _=> .there) hm hlc hf) ?_
  rintro C9 sG ⟨K,rfl,ho⟩
  obtain⟨a7,c7,UN⟩:=(ho.row (hs:=[])).len
  subst UN
  refine OT.U hT 2 rfl (.nil (.seq (.ret (.of (rs:=[.tmp 2]) [_] (K::hs) rfl (.tmp rfl .nil) sl ?_))))
  try dsimp only[one]
  exact⟨K,rfl,by unfold qY;rw[if_pos hm]⟩
set_option maxHeartbeats 1000000 in
set_option maxRecDepth 100000 in
theorem pe{cs:List Value}{n:Nd}{hs:List Chunk}(h:fJ hs cs n)(hlc:n.cells.length<=1000)(hlk:n.keys.length<=1000000)(vS:n.kids.length<=1000000)(hf:∀c∈n.cells,c.val.f<2^64/\c.new.f<2^64):ax Tryz.prog 144 [.agg ⟨cs⟩] hs (fun v' hs'=>∃K w,hs'=K::hs/\v'= .tuple ⟨[w,.int .i64 (bS n).2]⟩/\Own Go.Sx.bD 1 5 w (bS n).1 K):=by
 refine ax.enter 18 Tryz.func144 rfl Tryz.ntmps144 rfl ?_
 obtain⟨vc,vk,vi,rfl,hc,hk,hi⟩:=h.is
 obtain⟨ac,cc,e1⟩:=hc.len
 obtain⟨ak,ck,e2⟩:=hk.len
 obtain⟨ai,ci,e3⟩:=hi.len
 subst e1 e2 e3
 have h:fJ hs [.bool n.leaf,.slice ac n.cells.length cc,.slice ak n.keys.length ck,.slice ai n.kids.length ci] n:=⟨_,_,_,rfl,hc,hk,hi⟩
 refine TT.seq (.region (.box rfl rfl rfl (fun b_1=> ?_)))
 refine OT.U hT 2 rfl (.nil (.seq (.seq (.seq (.region (.load rfl rfl (Ld.af hT rfl hz rfl) rfl ?_))))))
 refine OT.call Tryz.call138 rfl rfl rfl rfl (zk (h.mono fun _ _=> .there) (by omega) hlk vS) ?_
 rintro IV vz ⟨rfl,rfl⟩
 refine OT.U hT 1 rfl (.nil (.seq (.cond rfl (fun c7=> ?_) (fun c7=> ?_))))
 .
  have hm:¬cQ n:=by simpa using c7
  refine TT.seq (.region (.U hT 2 rfl (.nil (.seq (.ret (.of (rs:=[.tmp 2,.tmp 3]) [_,_] ([]::hs) rfl (.tmp rfl (.tmp rfl .nil)) sl ?_))))))
  try dsimp only[one]
  rw[GX hm]
  exact⟨[],_,rfl,rfl,Own.nil⟩
 .
  have hm:cQ n:=by simpa using c7
  refine TT.skip (.seq (.seq (.region (.load rfl rfl (Ld.af hT rfl hz rfl) rfl ?_))))
  refine OT.call Tryz.call173 rfl rfl rfl rfl (xp (h.mono fun _ _=> .there) hm hlc hf) ?_
  rintro IW yG ⟨K,rfl,ho⟩
  obtain⟨a9,c9,vj⟩:=(ho.row (hs:=[])).len
  subst vj
  refine OT.U hT 1 rfl (.nil (.seq (.seq (.seq (.region (.U hT 3 rfl (.nil (.seq (.cond rfl (fun ew=> ?_) (fun ew=> ?_))))))))))
  .
   have ew:=of_decide_eq_true ew
   refine TT.seq (.region (.U hT 2 rfl (.nil (.seq (.ret (.of (rs:=[.tmp 2,.tmp 3]) [_,_] ([]::hs) rfl (.tmp rfl (.tmp rfl .nil)) sl ?_))))))
   try dsimp only[one]
   rw[Fp hm (by omega)]
   exact⟨[],_,rfl,rfl,Own.nil⟩
  .
   have ew:=of_decide_eq_false ew
   refine TT.skip (.seq (.seq (.region (.U hT 4 rfl (.jO (z0:=(0:UInt8)) (m:=256-(b6 n).length) Tryz.zeroValue5 rfl rfl rfl hT lq rfl rfl rfl (congrArg some (int_eq (by rw[wrap_i64 (by omega) (by omega)];omega))) pl ho (by omega) rfl (fun BH Jz DQ=> ?_))))))
   refine OT.U hT 2 rfl (.nil (.seq (.ret (.of (rs:=[.tmp 2,.tmp 3]) [_,_] (Jz::hs) rfl (.tmp rfl (.tmp rfl .nil)) sl ?_))))
   try dsimp only[one]
   rw[KH hm (by omega)]
   exact⟨_,_,rfl,rfl,DQ⟩
end Go.Proofs.YtihpkgmfkbkffaaGreat.Sx
end
section
namespace Go.Proofs.YtihpkgmfkbkffaaGreat.Sx
open Go Go.Sx Go.Pl
variable[aq]
set_option maxHeartbeats 1000000 in
set_option maxRecDepth 100000 in
theorem CF{s:ByteArray}{hs:List Chunk}:ax Tryz.prog 172 [.string s] hs (fun v' hs'=>v'= .bool false/\hs=hs'):=by
 refine ax.enter 6 Tryz.func172 rfl Tryz.ntmps172 rfl ?_
 refine TT.seq (.region (.U hT 1 rfl (.nil (.seq (.seq (.region (.U hT 4 rfl (.nil (.seq (.ret (.of (rs:=[.tmp 2]) [_] hs rfl (.tmp rfl .nil) sl ?_)))))))))))
 try dsimp only[one]
 refine⟨congrArg Value.bool ?_,rfl⟩
 simp
set_option maxHeartbeats 1000000 in
set_option maxRecDepth 100000 in
theorem Ac{s:ByteArray}{hs:List Chunk}:ax Tryz.prog 198 [.string s] hs (fun v' hs'=>v'= .bool false/\hs=hs'):=by
 refine ax.enter 6 Tryz.func198 rfl Tryz.ntmps198 rfl ?_
 refine TT.seq (.region (.U hT 1 rfl (.nil (.seq (.seq (.region (.U hT 4 rfl (.nil (.seq (.ret (.of (rs:=[.tmp 2]) [_] hs rfl (.tmp rfl .nil) sl ?_)))))))))))
 try dsimp only[one]
 refine⟨congrArg Value.bool ?_,rfl⟩
 simp
set_option maxHeartbeats 1000000 in
set_option maxRecDepth 100000 in
theorem CG{a b:ByteArray}{hs:List Chunk}:ax Tryz.prog 171 [.string a,.string b] hs (fun v' hs'=>v'= .bool (bY a b)/\hs=hs'):=by
 refine ax.enter 17 Tryz.func171 rfl Tryz.ntmps171 rfl ?_
 refine TT.seq (.region (.U hT 1 rfl (.nil (.seq (.seq (.region (.U hT 1 rfl (.call Tryz.call198 rfl rfl rfl rfl (Ac) ?_))))))))
 rintro IV vz ⟨rfl,rfl⟩
 refine OT.U hT 1 rfl (.U hT 10 rfl (.nil (.seq (.ret (.of (rs:=[.tmp 4]) [_] hs rfl (.tmp rfl .nil) sl ?_)))))
 try dsimp only[one]
 refine⟨congrArg Value.bool ?_,rfl⟩
 rfl
set_option maxHeartbeats 1000000 in
set_option maxRecDepth 100000 in
theorem CH{v:Value}{l:List ByteArray}{k:ByteArray}{hs:List Chunk}(hr:Row Go.Sx.iq 1 hs v l)(hl:l.length<=1000000)(vN:rising l):ax Tryz.prog 139 [v,.string k] hs (fun v' hs'=>∃i:Nat,v'= .tuple ⟨[.int .i64 (i:Nat),.bool (decide (l[i]? =some k))]⟩/\oI l k i/\hs=hs'):=by
 refine ax.enter 54 Tryz.func139 rfl Tryz.ntmps139 rfl ?_
 obtain⟨a0,c0,hv⟩:=hr.len
 subst hv
 refine TT.seq (.region (.U hT 2 rfl (.nil (.seq (.seq (.region (.U hT 3 rfl (.nil (.seq (.seq (.region (.U hT 3 rfl (.nil (.seq (.seq (.block (.loop (ι:=Nat×Nat) (fun j=>(j.1)<=(j.2)/\(j.2)<=l.length/\(∀(z:Nat) (x:ByteArray),z<(j.1)->l[z]? =some x->bY x k=true)/\(∀(z:Nat) (x:ByteArray),(j.2)<=z->l[z]? =some x->bY x k=false)) (fun j=>(j.2)-(j.1)) (fun j=>[(0,.slice a0 l.length c0),(1,.string k),(6,.int .i64 (l.length:Nat)),(7,.int .i64 ((j.1):Nat)),(8,.int .i64 ((j.2):Nat))]) (fun j=>hs) (0,l.length) ?_ (aa.cons rfl (aa.cons rfl (aa.cons rfl (aa.cons rfl (aa.cons rfl (aa.nil _)))))) sl ?_)))))))))))))))))
 . dsimp only
   exact⟨by omega,by omega,fun j x h=>by omega,fun j x h hx=>by rw[List.getElem?_eq_none (by omega)]at hx;cases hx⟩
 rintro⟨p,q⟩ hI
 dsimp only at hI
 obtain⟨hpq,Oi,hlo,hhi⟩:=hI
 show TT _ _ _ [(0,.slice a0 l.length c0),(1,.string k),(6,.int .i64 (l.length:Nat)),(7,.int .i64 (p:Nat)),(8,.int .i64 (q:Nat))] (hs)
 refine TT.seq (.seq (.region (.U hT 3 rfl (.nil (.seq (.cond rfl (fun oQ=> ?_) (fun oQ=> ?_)))))))
 .
  have oQ:=of_decide_eq_true oQ
  obtain⟨x,hx⟩:=nth (l:=l) (i:=(p+q)/2) (by omega)
  refine TT.skip (.seq (.block (.seq (.region (.U hT 7 rfl (.nil (.seq (.seq (.region (.U hT 2 rfl (.eH 9 rfl (v:= .int .i64 (((p+q)/2:Nat):Int)) (int_eq (half (by omega))) (.eH 23 rfl (v:= .int .i64 (((p+q)/2:Nat):Int)) (int_eq (half (by omega))) (.index hT rfl rfl rfl rfl hr (by omega) (by rw[Int.toNat_natCast];exact hx) rfl (fun DV mN=> ?_))))))))))))))
  refine OT.load rfl rfl (mN.ct hT rfl rfl) rfl (.U hT 1 rfl (.call Tryz.call171 rfl rfl rfl rfl (CG) ?_))
  rintro BF wj ⟨rfl,rfl⟩
  refine OT.nil (.seq (.cond rfl (fun qE=> ?_) (fun qE=> ?_)))
  .
   refine TT.region (.U hT 3 rfl (.nil (.blk (.loop ((p+q)/2+1,q) ?_ ?_ (aa.cons rfl (aa.cons rfl (aa.cons rfl (aa.aD rfl (by(try dsimp only);exact(int_eq (by rw[wrap_i64 (by omega) (by omega)];omega))) (aa.cons rfl (aa.nil _)))))) sl))))
   . dsimp only
     refine⟨by omega,Oi,fun j y hj hy=> ?_,hhi⟩
     by_cases e:j=(p+q)/2
     . subst e;rw[hx]at hy;cases hy;exact qE
     . exact bB (jh vN (by omega) hy hx) qE
   . dsimp only
     omega
  .
   refine TT.region (.U hT 2 rfl (.nil (.blk (.loop (p,(p+q)/2) ?_ ?_ (aa.cons rfl (aa.cons rfl (aa.cons rfl (aa.cons rfl (aa.cons rfl (aa.nil _)))))) sl))))
   . dsimp only
     refine⟨by omega,by omega,hlo,fun j y hj hy=> ?_⟩
     by_cases e:j=(p+q)/2
     . subst e;rw[hx]at hy;cases hy;exact qE
     . cases hh:bY y k with
       |false=>rfl
       |true=>have:=bB (jh vN (by omega) hx hy) hh;rw[qE]at this;cases this
   . dsimp only
     omega
 .
  have oQ:=of_decide_eq_false oQ
  obtain rfl:p=q:=by omega
  refine TT.exit (.seq (.loop (.here (.seq (.seq (.region (.U hT 5 rfl (.split 35 rfl (fun mo=> ?_) (fun mo=> ?_)))))))))
  .
   obtain⟨y,hy⟩:=nth (l:=l) (i:=p) (by have:=of_decide_eq_true mo;omega)
   refine OT.U hT 2 rfl (.index hT rfl rfl rfl rfl hr (by omega) (by rw[Int.toNat_natCast];exact hy) rfl (fun Nw zm=> ?_))
   refine OT.load rfl rfl (zm.ct hT rfl rfl) rfl (.U hT 3 rfl (.split 42 rfl (fun Dd=> ?_) (fun Dd=> ?_)))
   .
    have Dd:y=k:=of_decide_eq_true Dd
    refine OT.U hT 13 rfl (.nil (.seq (.ret (.of (rs:=[.tmp 4,.tmp 5]) [_,_] hs rfl (.tmp rfl (.tmp rfl .nil)) sl ?_))))
    try dsimp only[one]
    exact⟨p,by rw[hy,Dd,decide_eq_true rfl];rfl,⟨by omega,hlo,hhi⟩,rfl⟩
   .
    have Dd:¬y=k:=of_decide_eq_false Dd
    refine OT.U hT 2 rfl (.index hT rfl rfl rfl rfl hr (by omega) (by rw[Int.toNat_natCast];exact hy) rfl (fun SN KJ=> ?_))
    refine OT.load rfl rfl (KJ.ct hT rfl rfl) rfl (.call Tryz.call172 rfl rfl rfl rfl (CF) ?_)
    rintro JI DW ⟨rfl,rfl⟩
    refine OT.U hT 1 rfl (.U hT 7 rfl (.nil (.seq (.ret (.of (rs:=[.tmp 4,.tmp 5]) [_,_] hs rfl (.tmp rfl (.tmp rfl .nil)) sl ?_)))))
    try dsimp only[one]
    exact⟨p,by rw[hy,decide_eq_false (fun h=>Dd (Option.some.inj h))];rfl,⟨by omega,hlo,hhi⟩,rfl⟩
  .
   have mo:¬p<l.length:=by have:=of_decide_eq_false mo;omega
   refine OT.U hT 20 rfl (.nil (.seq (.ret (.of (rs:=[.tmp 4,.tmp 5]) [_,_] hs rfl (.tmp rfl (.tmp rfl .nil)) sl ?_))))
   try dsimp only[one]
   exact⟨p,by rw[List.getElem?_eq_none (by omega),decide_eq_false (by simp)];rfl,⟨by omega,hlo,hhi⟩,rfl⟩
end Go.Proofs.YtihpkgmfkbkffaaGreat.Sx
end
section
namespace Go.Proofs.YtihpkgmfkbkffaaGreat.Sx
open Go Go.Sx Go.Pl
variable[aq]
set_option maxHeartbeats 1000000 in
set_option maxRecDepth 100000 in
theorem KM{cs:List Value}{n:Nd}{k:ByteArray}{hs:List Chunk}(h:fJ hs cs n)(hlc:n.cells.length<=1000)(hlk:n.keys.length<=1000000)(vS:n.kids.length<=1000000):ax Tryz.prog 97 [.agg ⟨cs⟩,.string k] hs (fun v' hs'=>((n.leaf=true\/¬cQ n)/\v'= .int .i64 (-1)\/n.leaf=false/\cQ n/\∃i:Nat,oI n.keys k i/\v'= .int .i64 (if n.keys[i]? =some k then(i:Int)+1 else(i:Int)))/\hs=hs'):=by
 refine ax.enter 25 Tryz.func97 rfl Tryz.ntmps97 rfl ?_
 obtain⟨vc,vk,vi,rfl,hc,hk,hi⟩:=h.is
 obtain⟨ac,cc,e1⟩:=hc.len
 obtain⟨ak,ck,e2⟩:=hk.len
 obtain⟨ai,ci,e3⟩:=hi.len
 subst e1 e2 e3
 have h:fJ hs [.bool n.leaf,.slice ac n.cells.length cc,.slice ak n.keys.length ck,.slice ai n.kids.length ci] n:=⟨_,_,_,rfl,hc,hk,hi⟩
 refine TT.seq (.region (.box rfl rfl rfl (fun b_2=> ?_)))
 refine OT.U hT 1 rfl (.nil (.seq (.seq (.seq (.region (.U hT 1 rfl (.load rfl rfl (Ld.one hT rfl hz rfl) rfl ?_)))))))
 refine OT.U hT 1 rfl (.split 9 rfl (fun g9=> ?_) (fun g9=> ?_))
 .
  refine OT.U hT 4 rfl (.nil (.seq (.cond_true rfl (.seq (.region (.U hT 1 rfl (.nil (.seq (.ret (.of (rs:=[.tmp 4]) [_] hs rfl (.tmp rfl .nil) sl ?_))))))))))
  try dsimp only[one]
  exact⟨.inl ⟨.inl g9,rfl⟩,rfl⟩
 .
  refine OT.load rfl rfl (Ld.af hT rfl hz rfl) rfl ?_
  refine OT.call Tryz.call138 rfl rfl rfl rfl (zk (h.mono fun _ _=> .there) (by omega) hlk vS) ?_
  rintro oH iV ⟨rfl,rfl⟩
  refine OT.U hT 2 rfl (.nil (.seq (.cond rfl (fun gm=> ?_) (fun gm=> ?_))))
  .
   have hm:¬cQ n:=by simpa using gm
   refine TT.seq (.region (.U hT 1 rfl (.nil (.seq (.ret (.of (rs:=[.tmp 4]) [_] hs rfl (.tmp rfl .nil) sl ?_))))))
   try dsimp only[one]
   exact⟨.inl ⟨.inr hm,rfl⟩,rfl⟩
  .
   have hm:cQ n:=by simpa using gm
   refine TT.skip (.seq (.seq (.region (.U hT 1 rfl (.load rfl rfl (Ld.slc hT rfl hz rfl) rfl ?_)))))
   refine OT.U hT 1 rfl (.call Tryz.call139 rfl rfl rfl rfl (CH hk.there hlk ((aS (by simpa using g9)).1 hm).2.2.1) ?_)
   rintro Dm AG ⟨i,rfl,hst,rfl⟩
   refine OT.U hT 5 rfl (.nil (.seq (.seq (.seq (.region (.U hT 1 rfl (.nil (.seq (.cond rfl (fun ef=> ?_) (fun ef=> ?_))))))))))
   .
    have ef:n.keys[i]? =some k:=of_decide_eq_true ef
    have hil:=hst.le
    refine TT.region (.U hT 3 rfl (.nil (.seq (.seq (.region (.U hT 2 rfl (.nil (.seq (.ret (.of (rs:=[.tmp 4]) [_] hs rfl (.tmp rfl .nil) sl ?_))))))))))
    try dsimp only[one]
    exact⟨.inr ⟨by simpa using g9,hm,i,hst,int_eq (by rw[if_pos ef,wrap_i64 (by omega) (by omega)])⟩,rfl⟩
   .
    have ef:¬n.keys[i]? =some k:=of_decide_eq_false ef
    refine TT.skip (.seq (.seq (.region (.U hT 2 rfl (.nil (.seq (.ret (.of (rs:=[.tmp 4]) [_] hs rfl (.tmp rfl .nil) sl ?_))))))))
    try dsimp only[one]
    exact⟨.inr ⟨by simpa using g9,hm,i,hst,int_eq (by rw[if_neg ef])⟩,rfl⟩
end Go.Proofs.YtihpkgmfkbkffaaGreat.Sx
end
section
namespace Go.Proofs.YtihpkgmfkbkffaaGreat.Sx
open Go Go.Sx Go.Pl
variable[aq]
set_option maxHeartbeats 1000000 in
set_option maxRecDepth 100000 in
theorem Fq{v w:Value}{xs ys:List UInt8}{hs:List Chunk}(hr:Row Go.Sx.bD 1 hs v xs)(hq:Row Go.Sx.bD 1 hs w ys):ax Tryz.prog 122 [v,w] hs (fun v' hs'=>v'= .bool (decide (xs=ys))/\hs=hs'):=by
 refine ax.enter 10 Tryz.func122 rfl Tryz.ntmps122 rfl ?_
 refine TT.seq (.region (.U hT 1 rfl (.nil (.seq (.seq (.region (.U hT 1 rfl (.uG (fun _=>rfl) hT rfl rfl rfl rfl rfl hr rfl (.U hT 1 rfl (.uG (fun _=>rfl) hT rfl rfl rfl rfl rfl hq rfl (.U hT 2 rfl (.nil (.seq (.ret (.of (rs:=[.tmp 4]) [_] hs rfl (.tmp rfl .nil) sl ?_)))))))))))))))
 try dsimp only[one]
 refine⟨congrArg Value.bool (decide_eq_decide.2 ?_),rfl⟩
 constructor
 . intro h;injection h with h;injection h
 . intro h;rw[h]
set_option maxHeartbeats 1000000 in
set_option maxRecDepth 100000 in
theorem uT{b:Nat}{vr:Value}{r:Rd}{hs0 hs:List Chunk}(hr:Row Go.Sx.bD 1 hs0 vr r.l)(hh:∀b o,Has hs0 b o->Has hs b o){n e:Int}(hn:e=0->0<=n/\n<=r.l.length):ax Tryz.prog 169 [.pointer (some ⟨b,0,none⟩),.int .i64 n,.int .i64 e] ([(b,blk [vr,.bool r.bad] 234 (0,0))]::hs) (fun v' hs'=>v'= .tuple ⟨[]⟩/\∃L2,hs'=[(b,blk [L2,.bool (r.dI n e).bad] 234 (0,0))]::hs/\Row Go.Sx.bD 1 hs0 L2 (r.dI n e).l):=by
 refine ax.enter 31 Tryz.func169 rfl Tryz.ntmps169 rfl ?_
 obtain⟨a0,c0,hv⟩:=hr.len
 subst hv
 refine TT.seq (.region (.U hT 4 rfl (.load rfl rfl (Ld.one hT rfl hz rfl) rfl ?_)))
 refine OT.U hT 1 rfl (.split 11 rfl (fun uk=> ?_) (fun uk=> ?_))
 .
  have yT:r.dI n e=⟨r.l,true⟩:=by unfold Rd.dI;rw[if_pos (.inl uk)]
  refine OT.U hT 5 rfl (.store hT rfl rfl rfl rfl pl rfl (Nat.le_of_ble_eq_true rfl) rfl (.inl (Nat.le_refl _)) rfl ?_)
  refine OT.nil (.seq (.seq (.region (.U hT 3 rfl (.load rfl rfl (Ld.one hT rfl hz rfl) rfl ?_)))))
  refine OT.U hT 1 rfl (.nil (.seq (.cond_false rfl (.skip (.of (rs:=[]) [] ([(b,blk [.slice a0 r.l.length c0,.bool true] 234 (0,0))]::hs) rfl .nil sl ?_)))))
  try dsimp only[one]
  exact⟨rfl,_,by rw[yT],by rw[yT];exact hr⟩
 .
  refine OT.U hT 5 rfl (.store hT rfl rfl rfl rfl pl rfl (Nat.le_of_ble_eq_true rfl) rfl (.inl (Nat.le_refl _)) rfl ?_)
  refine OT.nil (.seq (.seq (.region (.U hT 3 rfl (.load rfl rfl (Ld.one hT rfl hz rfl) rfl ?_)))))
  refine OT.U hT 1 rfl (.nil (.seq (.cond rfl (fun ef=> ?_) (fun ef=> ?_))))
  .
   obtain rfl:e=0:=by simpa using ef
   have hn:=hn rfl
   obtain⟨m,rfl⟩:∃m:Nat,n=m:=⟨n.toNat,by omega⟩
   refine TT.region (.U hT 4 rfl (.load rfl rfl (Ld.slc hT rfl hz rfl) rfl ?_))
   refine OT.U hT 1 rfl (.bK m r.l.length hT rfl rfl rfl rfl rfl (.inr ⟨_,rfl⟩) (.inl ⟨rfl,rfl⟩) (by omega) (by have:=hr.fD;omega) rfl ?_)
   refine OT.U hT 2 rfl (.store hT rfl rfl rfl rfl pl rfl (Nat.le_of_ble_eq_true rfl) rfl (.inl (Nat.le_refl _)) rfl ?_)
   refine OT.nil (.of (rs:=[]) [] ([(b,blk [_,.bool (0 !=0)] 234 (0,0))]::hs) rfl .nil sl ?_)
   try dsimp only[one]
   have hb:r.bad=false:=uk
   have yT:=Rd.jg (n:=(m:Int)) hb rfl
   have h2:=hr.sub (L:=m) (M:=r.l.length) (by omega) (Nat.le_refl _)
   rw[List.take_length]at h2
   exact⟨rfl,_,by rw[yT];rfl,by rw[yT];dsimp only;rw[Int.toNat_natCast];exact h2⟩
  .
   have ef:e≠0:=by simpa using ef
   have yT:r.dI n e=⟨r.l,true⟩:=by unfold Rd.dI;rw[if_pos (.inr ef)]
   refine TT.skip (.of (rs:=[]) [] ([(b,blk [.slice a0 r.l.length c0,.bool (e !=0)] 234 (0,0))]::hs) rfl .nil sl ?_)
   try dsimp only[one]
   exact⟨rfl,_,by rw[yT,show(e !=0)=true by simpa using ef],by rw[yT];exact hr⟩
set_option maxHeartbeats 1000000 in
set_option maxRecDepth 100000 in
theorem uE{b:Nat}{vr:Value}{r:Rd}{hs0 hs:List Chunk}(hr:Row Go.Sx.bD 1 hs0 vr r.l)(hh:∀b o,Has hs0 b o->Has hs b o)(hl:r.l.length<=1000000):ax Tryz.prog 167 [.pointer (some ⟨b,0,none⟩)] ([(b,blk [vr,.bool r.bad] 234 (0,0))]::hs) (fun v' hs'=>v'= .int .i64 (get r.l).1/\∃L2,hs'=[(b,blk [L2,.bool (r.dI (get r.l).2.1 (get r.l).2.2).bad] 234 (0,0))]::hs/\Row Go.Sx.bD 1 hs0 L2 (r.dI (get r.l).2.1 (get r.l).2.2).l):=by
 refine ax.enter 20 Tryz.func167 rfl Tryz.ntmps167 rfl ?_
 have hk:= @pq r.l
 refine TT.seq (.region (.U hT 1 rfl (.nil (.seq (.seq (.region (.U hT 3 rfl (.load rfl rfl (Ld.slc hT rfl hz rfl) rfl ?_))))))))
 refine OT.call Tryz.call120 rfl rfl rfl rfl (qy ((hr.mono hh).there) (by omega)) ?_
 rintro oH iV ⟨rfl,rfl⟩
 refine OT.U hT 7 rfl (.nil (.seq (.seq (.region (.U hT 3 rfl (.call Tryz.call169 rfl rfl rfl rfl (uT hr hh (fun h=>by have:=hk h;omega)) ?_))))))
 rintro Dm AG ⟨rfl,RU,rfl,kg⟩
 refine OT.nil (.seq (.seq (.region (.U hT 2 rfl (.nil (.seq (.ret (.of (rs:=[.tmp 2]) [_] ([(b,blk [RU,.bool (r.dI (get r.l).2.1 (get r.l).2.2).bad] 234 (0,0))]::hs) rfl (.tmp rfl .nil) sl ?_))))))))
 try dsimp only[one]
 exact⟨rfl,RU,rfl,kg⟩
set_option maxHeartbeats 4000000 in
set_option maxRecDepth 100000 in
theorem CI{v:Value}{bs:List UInt8}{hs:List Chunk}(hr:Row Go.Sx.bD 1 hs v bs):ax Tryz.prog 134 [v] hs (fun v' hs'=>∃K cs n e,hs'=K::hs/\v'= .tuple ⟨[.agg ⟨cs⟩,.int .i64 e]⟩/\gL 113 9 3 cs n K/\Jo bs n e):=by
 refine ax.enter 147 Tryz.func134 rfl Tryz.ntmps134 rfl ?_
 obtain⟨a0,c0,hv⟩:=hr.len
 subst hv
 refine TT.seq (.region (.alloc Tryz.zeroValue159 rfl rfl (fun b_2=> ?_)))
 refine OT.U hT 1 rfl (.nil (.seq (.seq (.seq (.region (.U hT 3 rfl (.nil (.seq (.cond rfl (fun um=> ?_) (fun um=> ?_))))))))))
 .
  have um:¬(bs.length:Int)=256:=by simpa using um
  refine TT.seq (.region (.build hT rfl Tryz.zeroValue159 rfl rfl rfl rfl (.ag hT rfl rfl rfl rfl pl rfl rfl rfl (.inl (Nat.le_refl _)) ?_)))
  refine OT.U hT 1 rfl (.nil (.seq (.ret (.of (rs:=[.cell 2 159,.tmp 3]) [_,_] ([]::hs) rfl (.cell rfl (Ld.af hT rfl hz rfl) (.tmp rfl .nil)) sl ?_))))
  try dsimp only[one]
  exact⟨[],_,BC,8,rfl,rfl,gL.none _ _ _,.bad rfl rfl (fun⟨n0,h0⟩=>um (by rw[h0.len];rfl))⟩
 .
  have um:(bs.length:Int)=256:=by simpa using um
  have hcap:=hr.fD
  have hl:bs.length=256:=by omega
  have L3:=hr.sub (L:=1) (M:=bs.length) (by omega) (Nat.le_refl _)
  rw[List.take_length]at L3
  obtain⟨y,hy⟩:=nth (l:=bs) (i:=0) (by omega)
  refine TT.skip (.seq (.seq (.region (.U hT 1 rfl (.bK 1 bs.length hT rfl rfl rfl rfl rfl (.inr ⟨_,rfl⟩) (.inl ⟨rfl,rfl⟩) (by omega) (by omega) rfl (.build hT rfl Tryz.zeroValue234 rfl rfl rfl rfl (.box rfl rfl rfl (fun uj=> ?_))))))))
  refine OT.U hT 1 rfl (.nil (.seq (.seq (.region (.U hT 1 rfl (.index hT rfl rfl rfl rfl (hr.there.there) (by omega) (by exact hy) rfl (fun Nx zn=> ?_)))))))
  refine OT.load rfl rfl (zn.ct hT rfl rfl) rfl (.U hT 1 rfl (.build (cs:=[.bool ((y.toNat:Int)==1),.slice none 0 0,.slice none 0 0,.slice none 0 0]) hT rfl Tryz.zeroValue159 rfl rfl rfl rfl ?_))
  obtain⟨lf,hlf⟩:∃b,((y.toNat:Int)==1)=b:=⟨_,rfl⟩
  rw[hlf]
  have hlf:∀n0,bz bs n0->n0.leaf=lf:=fun n0 h0=>by
   rw[mS h0,hy,<-hlf]
   by_cases h:y=1
   . subst h;rfl
   . rw[decide_eq_false (by simpa using h)];symm;rw[beq_eq_false_iff_ne];intro h2;exact h (UInt8.toNat_inj.1 (by show y.toNat=1;omega))
  refine OT.alloc Tryz.zeroValue159 rfl rfl (fun eM=> ?_)
  refine OT.ag hT rfl rfl rfl rfl pl rfl rfl rfl (.inl (Nat.le_refl _)) ?_
  refine OT.nil (.seq (.cut (ι:=Rd×Value×Value×(List Cell)×Chunk) (fun j=>(∀n0,bz bs n0->n0.leaf=true->(j.1).bad=false/\n0=⟨true,(j.2.2.2.1),[],[]⟩)/\(j.2.2.2.1).length<=256/\(∀c∈(j.2.2.2.1),c.val.f<2^64/\c.new.f<2^64)/\Own aj 8 113 (j.2.2.1) (j.2.2.2.1) (j.2.2.2.2)/\(lf=false->(j.2.2.2.1)=[])) (fun j=>[(0,.slice a0 bs.length c0),(2,.pointer (some ⟨b_2,0,none⟩)),(4,.pointer (some ⟨uj,0,none⟩)),(5,.pointer (some ⟨eM,0,none⟩))]) (fun j=>(j.2.2.2.2)::[(uj,blk [(j.2.1),.bool (j.1).bad] 234 (0,0))]::[(eM,blk [.bool lf,(j.2.2.1),.slice none 0 0,.slice none 0 0] 159 (0,0))]::[(b_2,blk [.bool false,.slice none 0 0,.slice none 0 0,.slice none 0 0] 159 (0,0))]::hs) ?_ ?_))
  .
   refine TT.seq (.region (.U hT 1 rfl (.call Tryz.call167 rfl rfl rfl rfl (ax.pull pl (uE (r:=⟨bs.drop 1,false⟩) L3 (fun _ _ h=> .there (.there h)) (by dsimp only;rw[List.length_drop];omega))) ?_)))
   rintro Mz Ny ⟨rfl,UO,rfl,kg⟩
   refine OT.U hT 1 rfl (.nil (.seq (.block (.loop (ι:=Int×Rd×Value×Value×(List Cell)×Chunk) (fun j=>pz bs (j.1) (j.2.1) (j.2.2.2.2.1)/\Row Go.Sx.bD 1 hs (j.2.2.1) (j.2.1).l/\Own aj 8 113 (j.2.2.2.1) (j.2.2.2.2.1) (j.2.2.2.2.2)/\(lf=false->(j.2.2.2.2.1)=[])/\(j.1)<=9223372036854775807) (fun j=>if(j.2.1).bad=true then 0 else(j.2.1).l.length+1) (fun j=>[(0,.slice a0 bs.length c0),(2,.pointer (some ⟨b_2,0,none⟩)),(4,.pointer (some ⟨uj,0,none⟩)),(5,.pointer (some ⟨eM,0,none⟩)),(6,.int .i64 (j.1))]) (fun j=>(j.2.2.2.2.2)::[(uj,blk [(j.2.2.1),.bool (j.2.1).bad] 234 (0,0))]::[(eM,blk [.bool lf,(j.2.2.2.1),.slice none 0 0,.slice none 0 0] 159 (0,0))]::[(b_2,blk [.bool false,.slice none 0 0,.slice none 0 0,.slice none 0 0] 159 (0,0))]::hs) (_,_,UO,.slice none 0 0,[],[]) ?_ (aa.cons rfl (aa.cons rfl (aa.cons rfl (aa.cons rfl (aa.cons rfl (aa.nil _)))))) sl ?_))))
   . dsimp only
     exact⟨pz.start hl,kg,Own.nil,fun _=>rfl,(oU _).2⟩
   rintro⟨k,r,vr,vc,cells,K⟩ hI
   dsimp only at hI
   obtain⟨hI,De,hO,yg,C4⟩:=hI
   show TT _ _ _ [(0,.slice a0 bs.length c0),(2,.pointer (some ⟨b_2,0,none⟩)),(4,.pointer (some ⟨uj,0,none⟩)),(5,.pointer (some ⟨eM,0,none⟩)),(6,.int .i64 k)] (K::[(uj,blk [vr,.bool r.bad] 234 (0,0))]::[(eM,blk [.bool lf,vc,.slice none 0 0,.slice none 0 0] 159 (0,0))]::[(b_2,blk [.bool false,.slice none 0 0,.slice none 0 0,.slice none 0 0] 159 (0,0))]::hs)
   refine TT.seq (.seq (.region (.U hT 3 rfl (.split 35 rfl (fun mo=> ?_) (fun mo=> ?_)))))
   .
    have mo:=of_decide_eq_true mo
    refine OT.U hT 3 rfl (.load rfl rfl (Ld.one hT rfl hz rfl) rfl ?_)
    refine OT.U hT 3 rfl (.split 42 rfl (fun Dd=> ?_) (fun Dd=> ?_))
    .
     have hb:r.bad=false:=by simpa using Dd
     have hrl:=hI.room hb
     refine OT.U hT 1 rfl (.load rfl rfl (Ld.one hT rfl hz rfl) rfl ?_)
     refine OT.U hT 1 rfl (.nil (.seq (.cond rfl (fun Po=> ?_) (fun Po=> ?_))))
     .
      refine TT.skip (.seq (.seq (.block (.seq (.region (.U hT 3 rfl (.load rfl rfl (Ld.slc hT rfl hz rfl) rfl ?_)))))))
      refine OT.call Tryz.call168 rfl rfl rfl rfl (Kv (De.there.there.there.there) (by omega)) ?_
      rintro JC Ik ⟨rfl,rfl⟩
      refine OT.U hT 4 rfl (.alloc Tryz.zeroValue113 rfl rfl (fun ni=> ?_))
      refine OT.ag hT rfl rfl rfl rfl pl rfl rfl rfl (.inl (Nat.le_refl _)) ?_
      refine OT.U hT 2 rfl (.nil (.seq (.seq (.region (.U hT 3 rfl (.call Tryz.call169 rfl rfl rfl rfl (ax.pull pl (uT De (fun _ _ h=>(.there (.there (.there (.there h))))) (fun h=>by have:=s_ h;omega))) ?_))))))
      rintro MD Il ⟨rfl,Hz,rfl,HA⟩
      refine OT.nil (.seq (.region (.U hT 1 rfl (.load rfl rfl (Ld.slc hT rfl hz rfl) rfl ?_))))
      refine OT.load rfl rfl (Ld.af hT rfl hz rfl) rfl ?_
      refine OT.buildSlice (enc:=aj) (xs:=[(bn r.l).1]) (ij:=[.tmp 63]) iU rfl rfl rfl rfl rfl (by simp[Value.cells];rfl) (fun _ _=>rfl) rfl (by decide) rfl (fun JA VV Nz=> ?_)
      refine OT.append hT iU rfl rfl rfl rfl pl hO Nz.row rfl (by have:=hI.j7;simp only[List.length_singleton];omega) rfl (fun VW Qu Io=> ?_)
      obtain⟨W7,W8,rfl⟩:=(Io.row (hs:=hs)).len
      refine OT.U hT 1 rfl (.store hT rfl rfl rfl rfl pl rfl (Nat.le_of_ble_eq_true rfl) rfl (.inl (Nat.le_refl _)) rfl ?_)
      refine OT.nil (.blk (.seq (.region (.U hT 3 rfl (.nil (.loop (k-1,r.dI (bn r.l).2.1 (bn r.l).2.2,Hz,_,cells++[(bn r.l).1],Qu) ?_ ?_ (aa.cons rfl (aa.cons rfl (aa.cons rfl (aa.cons rfl (aa.aD rfl (by(try dsimp only);exact(int_eq (by rw[wrap_i64 (by omega) (by omega)]))) (aa.nil _)))))) sl))))))
      . dsimp only
        exact⟨(hI.step hb mo).1,HA,Io,fun h=>(by rw[Po]at h;cases h),by omega⟩
      . dsimp only
        exact nJ hb (hI.step hb mo).2
     .
      refine TT.exit (.seq (.loop (.here (.cut (r,vr,vc,cells,K) ?_ (aa.cons rfl (aa.cons rfl (aa.cons rfl (aa.cons rfl (aa.nil _))))) sl))))
      . dsimp only
        exact⟨fun n0 h0 hl=>(by rw[hlf n0 h0,Po]at hl;cases hl),hI.j7,hI.fl,hO,yg⟩
    .
     have hb:r.bad=true:=by simpa using Dd
     refine OT.U hT 3 rfl (.nil (.seq (.cond_false rfl (.exit (.seq (.loop (.here (.cut (r,vr,vc,cells,K) ?_ (aa.cons rfl (aa.cons rfl (aa.cons rfl (aa.cons rfl (aa.nil _))))) sl))))))))
     . dsimp only
       exact⟨fun n0 h0 hl=>ta hI (.inr hb) h0 hl,hI.j7,hI.fl,hO,yg⟩
   .
    have mo:=of_decide_eq_false mo
    refine OT.U hT 10 rfl (.nil (.seq (.cond_false rfl (.exit (.seq (.loop (.here (.cut (r,vr,vc,cells,K) ?_ (aa.cons rfl (aa.cons rfl (aa.cons rfl (aa.cons rfl (aa.nil _))))) sl))))))))
    . dsimp only
      exact⟨fun n0 h0 hl=>ta hI (.inl mo) h0 hl,hI.j7,hI.fl,hO,yg⟩
  .
   rintro⟨r,vr,vc,cells,K⟩ hI
   dsimp only at hI
   obtain⟨hlv,jq,hfl,hO,yg⟩:=hI
   show TT _ _ _ [(0,.slice a0 bs.length c0),(2,.pointer (some ⟨b_2,0,none⟩)),(4,.pointer (some ⟨uj,0,none⟩)),(5,.pointer (some ⟨eM,0,none⟩))] (K::[(uj,blk [vr,.bool r.bad] 234 (0,0))]::[(eM,blk [.bool lf,vc,.slice none 0 0,.slice none 0 0] 159 (0,0))]::[(b_2,blk [.bool false,.slice none 0 0,.slice none 0 0,.slice none 0 0] 159 (0,0))]::hs)
   refine TT.cut (ι:=Nat×Rd×Value×(List Value)×Nd×Chunk) (fun j=>gL 113 9 3 (j.2.2.2.1) (j.2.2.2.2.1) (j.2.2.2.2.2)/\(∀n0,bz bs n0->(j.2.1).bad=false/\n0=(j.2.2.2.2.1))/\(j.2.2.2.2.1).cells.length<=256/\(j.2.2.2.2.1).keys.length<=256/\(j.2.2.2.2.1).kids.length<=256/\(∀c∈(j.2.2.2.2.1).cells,c.val.f<2^64/\c.new.f<2^64)) (fun j=>[(0,.slice a0 bs.length c0),(2,.pointer (some ⟨b_2,0,none⟩)),(4,.pointer (some ⟨(j.1),0,none⟩)),(5,.pointer (some ⟨eM,0,none⟩))]) (fun j=>(j.2.2.2.2.2)::[((j.1),blk [(j.2.2.1),.bool (j.2.1).bad] 234 (0,0))]::[(eM,blk (j.2.2.2.1) 159 (0,0))]::[(b_2,blk [.bool false,.slice none 0 0,.slice none 0 0,.slice none 0 0] 159 (0,0))]::hs) ?_ ?_
   .
    refine TT.seq (.region (.U hT 1 rfl (.load rfl rfl (Ld.one hT rfl hz rfl) rfl ?_)))
    refine OT.U hT 1 rfl (.nil (.seq (.cond rfl (fun Pp=> ?_) (fun Pp=> ?_))))
    .
     obtain rfl:lf=false:=by simpa using Pp
     obtain rfl:=yg rfl
     refine TT.seq (.region (.U hT 1 rfl (.bK 1 bs.length hT rfl rfl rfl rfl rfl (.inr ⟨_,rfl⟩) (.inl ⟨rfl,rfl⟩) (by omega) (by omega) rfl (.build hT rfl Tryz.zeroValue234 rfl rfl rfl rfl (.box rfl rfl rfl (fun nu=> ?_))))))
     refine OT.U hT 1 rfl (.nil (.seq (.seq (.region (.U hT 1 rfl (.call Tryz.call167 rfl rfl rfl rfl (ax.pull pl (uE (r:=⟨bs.drop 1,false⟩) L3 (fun _ _ h=> .there (.there (.there (.there h)))) (by dsimp only;rw[List.length_drop];omega))) ?_))))))
     rintro Qv NA ⟨rfl,UP,rfl,UQ⟩
     refine OT.U hT 1 rfl (.nil (.seq (.cut (ι:=Nat×Rd×Value×Value×(List Int)×Chunk) (fun j=>me bs (get (bs.drop 1)).1 1 (j.2.1) (j.2.2.2.2.1) []/\Row Go.Sx.bD 1 hs (j.2.2.1) (j.2.1).l/\Own Go.Sx.cZ 1 3 (j.2.2.2.1) (j.2.2.2.2.1) (j.2.2.2.2.2)/\(j.2.2.2.2.1).length<=256) (fun j=>[(0,.slice a0 bs.length c0),(2,.pointer (some ⟨b_2,0,none⟩)),(4,.pointer (some ⟨nu,0,none⟩)),(5,.pointer (some ⟨eM,0,none⟩)),(10,.int .i64 (get (bs.drop 1)).1)]) (fun j=>(j.2.2.2.2.2)::K::[(nu,blk [(j.2.2.1),.bool (j.2.1).bad] 234 (0,0))]::[(eM,blk [.bool false,vc,.slice none 0 0,(j.2.2.2.1)] 159 (0,0))]::[(b_2,blk [.bool false,.slice none 0 0,.slice none 0 0,.slice none 0 0] 159 (0,0))]::hs) ?_ ?_)))
     .
      refine TT.seq (.region (.U hT 1 rfl (.nil (.seq (.block (.loop (ι:=Nat×Rd×Value×Value×(List Int)×Chunk) (fun j=>pE bs (get (bs.drop 1)).1 (j.1) (j.2.1) (j.2.2.2.2.1)/\Row Go.Sx.bD 1 hs (j.2.2.1) (j.2.1).l/\Own Go.Sx.cZ 1 3 (j.2.2.2.1) (j.2.2.2.2.1) (j.2.2.2.2.2)) (fun j=>if(j.2.1).bad=true then 0 else(j.2.1).l.length+1) (fun j=>[(0,.slice a0 bs.length c0),(2,.pointer (some ⟨b_2,0,none⟩)),(4,.pointer (some ⟨nu,0,none⟩)),(5,.pointer (some ⟨eM,0,none⟩)),(10,.int .i64 (get (bs.drop 1)).1),(11,.int .i64 ((j.1):Nat))]) (fun j=>(j.2.2.2.2.2)::K::[(nu,blk [(j.2.2.1),.bool (j.2.1).bad] 234 (0,0))]::[(eM,blk [.bool false,vc,.slice none 0 0,(j.2.2.2.1)] 159 (0,0))]::[(b_2,blk [.bool false,.slice none 0 0,.slice none 0 0,.slice none 0 0] 159 (0,0))]::hs) (0,_,UP,.slice none 0 0,[],[]) ?_ (aa.cons rfl (aa.cons rfl (aa.cons rfl (aa.cons rfl (aa.cons rfl (aa.cons rfl (aa.nil _))))))) sl ?_))))))
      . dsimp only
        exact⟨pE.start hl,UQ,Own.nil⟩
      rintro⟨i,r,vr,vi,kids,KI⟩ hI
      dsimp only at hI
      obtain⟨hI,De,HD⟩:=hI
      show TT _ _ _ [(0,.slice a0 bs.length c0),(2,.pointer (some ⟨b_2,0,none⟩)),(4,.pointer (some ⟨nu,0,none⟩)),(5,.pointer (some ⟨eM,0,none⟩)),(10,.int .i64 (get (bs.drop 1)).1),(11,.int .i64 (i:Nat))] (KI::K::[(nu,blk [vr,.bool r.bad] 234 (0,0))]::[(eM,blk [.bool false,vc,.slice none 0 0,vi] 159 (0,0))]::[(b_2,blk [.bool false,.slice none 0 0,.slice none 0 0,.slice none 0 0] 159 (0,0))]::hs)
      refine TT.seq (.seq (.region (.U hT 4 rfl (.split 79 rfl (fun BP=> ?_) (fun BP=> ?_)))))
      .
       have BP:=of_decide_eq_true BP
       refine OT.U hT 3 rfl (.load rfl rfl (Ld.one hT rfl hz rfl) rfl ?_)
       refine OT.U hT 2 rfl (.nil (.seq (.cond rfl (fun Pq=> ?_) (fun Pq=> ?_))))
       .
        have hb:r.bad=false:=by simpa using Pq
        have hrl:=hI.room hb
        have C4:=(oU (bs.drop 1)).2
        have UR:=hI.j7
        have hik:=hI.II
        refine TT.skip (.seq (.seq (.block (.draw (hs) mixed (.takes (fuel:=6) hT [0,2] kr kr rfl (.all (fuel:=5) [1,3] kr (by decide) sl ?_))))))
        intro i hi
        simp only[List.mem_cons,List.not_mem_nil,or_false]at hi
        rcases hi with rfl|rfl
        .
         refine⟨_,rfl,?_⟩
         refine OT.load rfl rfl (Ld.slc hT rfl hz rfl) rfl ?_
         refine OT.nil (.any (.op (fuel:=4) 3 kr rfl sl (.call Tryz.call167 rfl rfl rfl rfl (ax.pull pl (uE De (fun _ _ h=> .there (.there (.there (.there h)))) (by omega))) ?_)))
         rintro ME Ip ⟨rfl,Hz,rfl,HA⟩
         refine OT.nil (.any (.op (fuel:=3) 4 kr rfl sl ?_))
         refine OT.buildSlice (enc:=Go.Sx.cZ) (xs:=[(get r.l).1]) (ij:=[.tmp 91]) j3 rfl rfl rfl rfl rfl (by simp[Value.cells]) (fun _ _=>rfl) rfl (by decide) rfl (fun MF MG wm=> ?_)
         refine OT.nil (.any (.op (fuel:=2) 5 kr rfl sl ?_))
         refine OT.append hT j3 rfl rfl rfl rfl pl HD wm.row rfl (by simp only[List.length_singleton];omega) rfl (fun MH Dq pJ=> ?_)
         obtain⟨RV,RW,rfl⟩:=(pJ.row (hs:=hs)).len
         refine OT.nil (.any (.takes (fuel:=1) hT [6] kr kr rfl (.op (fuel:=0) 7 kr rfl sl (.store hT rfl rfl rfl rfl pl rfl (Nat.le_of_ble_eq_true rfl) rfl (.inl (Nat.le_refl _)) rfl ?_))))
         refine OT.nil (.any (.done kr sl (.blk (.seq (.region (.U hT 3 rfl (.nil (.loop (i+1,r.dI (get r.l).2.1 (get r.l).2.2,Hz,_,kids++[(get r.l).1],Dq) ?_ ?_ (aa.cons rfl (aa.cons rfl (aa.cons rfl (aa.cons rfl (aa.cons rfl (aa.aD rfl (by(try dsimp only);exact(int_eq (by rw[wrap_i64 (by omega) (by omega)];omega))) (aa.nil _))))))) sl))))))))
         . dsimp only
           exact⟨(hI.step hb BP).1,HA,pJ⟩
         . dsimp only
           exact nJ hb (hI.step hb BP).2
        .
         refine⟨_,rfl,?_⟩
         refine OT.call Tryz.call167 rfl rfl rfl rfl (ax.pull pl (uE De (fun _ _ h=> .there (.there (.there (.there h)))) (by omega))) ?_
         rintro ME Ip ⟨rfl,Hz,rfl,HA⟩
         refine OT.nil (.any (.all (fuel:=4) [1,4] kr (by decide) sl ?_))
         intro i hi
         simp only[List.mem_cons,List.not_mem_nil,or_false]at hi
         rcases hi with rfl|rfl
         .
          refine⟨_,rfl,?_⟩
          refine OT.load rfl rfl (Ld.slc hT rfl hz rfl) rfl ?_
          refine OT.nil (.any (.op (fuel:=3) 4 kr rfl sl ?_))
          refine OT.buildSlice (enc:=Go.Sx.cZ) (xs:=[(get r.l).1]) (ij:=[.tmp 91]) j3 rfl rfl rfl rfl rfl (by simp[Value.cells]) (fun _ _=>rfl) rfl (by decide) rfl (fun MF MG wm=> ?_)
          refine OT.nil (.any (.op (fuel:=2) 5 kr rfl sl ?_))
          refine OT.append hT j3 rfl rfl rfl rfl pl HD wm.row rfl (by simp only[List.length_singleton];omega) rfl (fun MH Dq pJ=> ?_)
          obtain⟨RV,RW,rfl⟩:=(pJ.row (hs:=hs)).len
          refine OT.nil (.any (.takes (fuel:=1) hT [6] kr kr rfl (.op (fuel:=0) 7 kr rfl sl (.store hT rfl rfl rfl rfl pl rfl (Nat.le_of_ble_eq_true rfl) rfl (.inl (Nat.le_refl _)) rfl ?_))))
          refine OT.nil (.any (.done kr sl (.blk (.seq (.region (.U hT 3 rfl (.nil (.loop (i+1,r.dI (get r.l).2.1 (get r.l).2.2,Hz,_,kids++[(get r.l).1],Dq) ?_ ?_ (aa.cons rfl (aa.cons rfl (aa.cons rfl (aa.cons rfl (aa.cons rfl (aa.aD rfl (by(try dsimp only);exact(int_eq (by rw[wrap_i64 (by omega) (by omega)];omega))) (aa.nil _))))))) sl))))))))
          . dsimp only
            exact⟨(hI.step hb BP).1,HA,pJ⟩
          . dsimp only
            exact nJ hb (hI.step hb BP).2
         .
          refine⟨_,rfl,?_⟩
          refine OT.buildSlice (enc:=Go.Sx.cZ) (xs:=[(get r.l).1]) (ij:=[.tmp 91]) j3 rfl rfl rfl rfl rfl (by simp[Value.cells]) (fun _ _=>rfl) rfl (by decide) rfl (fun MF MG wm=> ?_)
          refine OT.nil (.any (.op (fuel:=3) 1 kr rfl sl (.load rfl rfl (Ld.slc hT rfl hz rfl) rfl ?_)))
          refine OT.nil (.any (.op (fuel:=2) 5 kr rfl sl ?_))
          refine OT.append hT j3 rfl rfl rfl rfl pl HD wm.row rfl (by simp only[List.length_singleton];omega) rfl (fun MH Dq pJ=> ?_)
          obtain⟨RV,RW,rfl⟩:=(pJ.row (hs:=hs)).len
          refine OT.nil (.any (.takes (fuel:=1) hT [6] kr kr rfl (.op (fuel:=0) 7 kr rfl sl (.store hT rfl rfl rfl rfl pl rfl (Nat.le_of_ble_eq_true rfl) rfl (.inl (Nat.le_refl _)) rfl ?_))))
          refine OT.nil (.any (.done kr sl (.blk (.seq (.region (.U hT 3 rfl (.nil (.loop (i+1,r.dI (get r.l).2.1 (get r.l).2.2,Hz,_,kids++[(get r.l).1],Dq) ?_ ?_ (aa.cons rfl (aa.cons rfl (aa.cons rfl (aa.cons rfl (aa.cons rfl (aa.aD rfl (by(try dsimp only);exact(int_eq (by rw[wrap_i64 (by omega) (by omega)];omega))) (aa.nil _))))))) sl))))))))
          . dsimp only
            exact⟨(hI.step hb BP).1,HA,pJ⟩
          . dsimp only
            exact nJ hb (hI.step hb BP).2
       .
        have hb:r.bad=true:=by simpa using Pq
        refine TT.exit (.seq (.loop (.here (.cut (i,r,vr,vi,kids,KI) ?_ (aa.cons rfl (aa.cons rfl (aa.cons rfl (aa.cons rfl (aa.cons rfl (aa.nil _)))))) sl))))
        . dsimp only
          exact⟨me.start hI (.inr hb),De,HD,hI.j7⟩
      .
       have BP:=of_decide_eq_false BP
       refine OT.U hT 6 rfl (.nil (.seq (.cond_false rfl (.exit (.seq (.loop (.here (.cut (i,r,vr,vi,kids,KI) ?_ (aa.cons rfl (aa.cons rfl (aa.cons rfl (aa.cons rfl (aa.cons rfl (aa.nil _)))))) sl))))))))
       . dsimp only
         exact⟨me.start hI (.inl BP),De,HD,hI.j7⟩
     .
      rintro⟨i,r,vr,vi,kids,KI⟩ hI
      dsimp only at hI
      obtain⟨dH,De,HD,Pr⟩:=hI
      show TT _ _ _ [(0,.slice a0 bs.length c0),(2,.pointer (some ⟨b_2,0,none⟩)),(4,.pointer (some ⟨nu,0,none⟩)),(5,.pointer (some ⟨eM,0,none⟩)),(10,.int .i64 (get (bs.drop 1)).1)] (KI::K::[(nu,blk [vr,.bool r.bad] 234 (0,0))]::[(eM,blk [.bool false,vc,.slice none 0 0,vi] 159 (0,0))]::[(b_2,blk [.bool false,.slice none 0 0,.slice none 0 0,.slice none 0 0] 159 (0,0))]::hs)
      refine TT.seq (.region (.U hT 1 rfl (.nil (.seq (.block (.loop (ι:=Nat×Rd×Value×Value×(List ByteArray)×Chunk) (fun j=>me bs (get (bs.drop 1)).1 (j.1) (j.2.1) kids (j.2.2.2.2.1)/\Row Go.Sx.bD 1 hs (j.2.2.1) (j.2.1).l/\Own Go.Sx.iq 1 9 (j.2.2.2.1) (j.2.2.2.2.1) (j.2.2.2.2.2)) (fun j=>if(j.2.1).bad=true then 0 else(j.2.1).l.length+1) (fun j=>[(0,.slice a0 bs.length c0),(2,.pointer (some ⟨b_2,0,none⟩)),(4,.pointer (some ⟨nu,0,none⟩)),(5,.pointer (some ⟨eM,0,none⟩)),(10,.int .i64 (get (bs.drop 1)).1),(12,.int .i64 ((j.1):Nat))]) (fun j=>(j.2.2.2.2.2)::KI::K::[(nu,blk [(j.2.2.1),.bool (j.2.1).bad] 234 (0,0))]::[(eM,blk [.bool false,vc,(j.2.2.2.1),vi] 159 (0,0))]::[(b_2,blk [.bool false,.slice none 0 0,.slice none 0 0,.slice none 0 0] 159 (0,0))]::hs) (1,_,vr,.slice none 0 0,[],[]) ?_ (aa.cons rfl (aa.cons rfl (aa.cons rfl (aa.cons rfl (aa.cons rfl (aa.cons rfl (aa.nil _))))))) sl ?_))))))
      . dsimp only
        exact⟨dH,De,Own.nil⟩
      rintro⟨i,r,vr,vk,keys,KK⟩ hI
      dsimp only at hI
      obtain⟨hI,RX,Pt⟩:=hI
      show TT _ _ _ [(0,.slice a0 bs.length c0),(2,.pointer (some ⟨b_2,0,none⟩)),(4,.pointer (some ⟨nu,0,none⟩)),(5,.pointer (some ⟨eM,0,none⟩)),(10,.int .i64 (get (bs.drop 1)).1),(12,.int .i64 (i:Nat))] (KK::KI::K::[(nu,blk [vr,.bool r.bad] 234 (0,0))]::[(eM,blk [.bool false,vc,vk,vi] 159 (0,0))]::[(b_2,blk [.bool false,.slice none 0 0,.slice none 0 0,.slice none 0 0] 159 (0,0))]::hs)
      refine TT.seq (.seq (.region (.U hT 4 rfl (.split 98 rfl (fun BO=> ?_) (fun BO=> ?_)))))
      .
       have BO:=of_decide_eq_true BO
       refine OT.U hT 3 rfl (.load rfl rfl (Ld.one hT rfl hz rfl) rfl ?_)
       refine OT.U hT 2 rfl (.nil (.seq (.cond rfl (fun JJ=> ?_) (fun JJ=> ?_))))
       .
        have hb:r.bad=false:=by simpa using JJ
        have hrl:=hI.room hb
        have C4:=(oU (bs.drop 1)).2
        have UR:=hI.j7
        have hik:=hI.II
        refine TT.skip (.seq (.seq (.block (.seq (.region (.U hT 3 rfl (.load rfl rfl (Ld.slc hT rfl hz rfl) rfl ?_)))))))
        refine OT.call Tryz.call160 rfl rfl rfl rfl (k7 (RX.there.there.there.there.there.there) (by omega)) ?_
        rintro SO QU ⟨rfl,rfl⟩
        refine OT.U hT 7 rfl (.nil (.seq (.seq (.region (.U hT 3 rfl (.call Tryz.call169 rfl rfl rfl rfl (ax.pull pl (uT RX (fun _ _ h=> .there (.there (.there (.there (.there h))))) (fun h=>by have:=gG h;omega))) ?_))))))
        rintro SP QV ⟨rfl,Hz,rfl,HA⟩
        refine OT.nil (.seq (.region (.U hT 1 rfl (.load rfl rfl (Ld.slc hT rfl hz rfl) rfl ?_))))
        refine OT.U hT 1 rfl ?_
        refine OT.buildSlice (enc:=Go.Sx.iq) (xs:=[(bg r.l).1]) (ij:=[.tmp 122]) qH rfl rfl rfl rfl rfl (by simp[Value.cells]) (fun _ _=>rfl) rfl (by decide) rfl (fun SQ SR KN=> ?_)
        refine OT.append hT qH rfl rfl rfl rfl pl Pt KN.row rfl (by simp only[List.length_singleton];omega) rfl (fun SS NB Em=> ?_)
        obtain⟨VX,VY,rfl⟩:=(Em.row (hs:=hs)).len
        refine OT.U hT 1 rfl (.store hT rfl rfl rfl rfl pl rfl (Nat.le_of_ble_eq_true rfl) rfl (.inl (Nat.le_refl _)) rfl ?_)
        refine OT.nil (.blk (.seq (.region (.U hT 3 rfl (.nil (.loop (i+1,r.dI (bg r.l).2.1 (bg r.l).2.2,Hz,_,keys++[(bg r.l).1],NB) ?_ ?_ (aa.cons rfl (aa.cons rfl (aa.cons rfl (aa.cons rfl (aa.cons rfl (aa.aD rfl (by(try dsimp only);exact(int_eq (by rw[wrap_i64 (by omega) (by omega)];omega))) (aa.nil _))))))) sl))))))
        . dsimp only
          exact⟨(hI.step hb BO).1,HA,Em⟩
        . dsimp only
          exact nJ hb (hI.step hb BO).2
       .
        have hb:r.bad=true:=by simpa using JJ
        refine TT.exit (.seq (.loop (.here (.cut (nu,r,vr,[.bool false,vc,vk,vi],⟨false,[],keys,kids⟩,K++(KK++KI)) ?_ (aa.cons rfl (aa.cons rfl (aa.cons rfl (aa.cons rfl (aa.nil _))))) sl))))
        . dsimp only
          exact⟨⟨_,_,_,K,KK,KI,rfl,rfl,hO,Pt,HD⟩,fun n0 h0=>tc hI (.inr hb) h0 (hlf n0 h0),by simp,hI.j7,Pr,by simp⟩
      .
       have BO:=of_decide_eq_false BO
       refine OT.U hT 6 rfl (.nil (.seq (.cond_false rfl (.exit (.seq (.loop (.here (.cut (nu,r,vr,[.bool false,vc,vk,vi],⟨false,[],keys,kids⟩,K++(KK++KI)) ?_ (aa.cons rfl (aa.cons rfl (aa.cons rfl (aa.cons rfl (aa.nil _))))) sl))))))))
       . dsimp only
         exact⟨⟨_,_,_,K,KK,KI,rfl,rfl,hO,Pt,HD⟩,fun n0 h0=>tc hI (.inl BO) h0 (hlf n0 h0),by simp,hI.j7,Pr,by simp⟩
    .
     obtain rfl:lf=true:=by simpa using Pp
     refine TT.skip (.cut (uj,r,vr,[.bool true,vc,.slice none 0 0,.slice none 0 0],⟨true,cells,[],[]⟩,K++([]++[])) ?_ (aa.cons rfl (aa.cons rfl (aa.cons rfl (aa.cons rfl (aa.nil _))))) (by rw[List.append_nil,List.append_nil];exact sl))
     . dsimp only
       exact⟨⟨_,_,_,K,[],[],rfl,rfl,hO,Own.nil,Own.nil⟩,fun n0 h0=>hlv n0 h0 (hlf n0 h0),jq,by simp,by simp,hfl⟩
   .
    rintro⟨bR,r,vr,cs,n,K⟩ hI
    dsimp only at hI
    obtain⟨hN,hn0,W9,Pr,W_,RY⟩:=hI
    show TT _ _ _ [(0,.slice a0 bs.length c0),(2,.pointer (some ⟨b_2,0,none⟩)),(4,.pointer (some ⟨bR,0,none⟩)),(5,.pointer (some ⟨eM,0,none⟩))] (K::[(bR,blk [vr,.bool r.bad] 234 (0,0))]::[(eM,blk cs 159 (0,0))]::[(b_2,blk [.bool false,.slice none 0 0,.slice none 0 0,.slice none 0 0] 159 (0,0))]::hs)
    refine TT.seq (.region (.load rfl rfl (Ld.af hT rfl hz hN.four) rfl ?_))
    refine OT.call Tryz.call144 rfl rfl rfl rfl (pe (hN.at _) (by omega) (by omega) (by omega) RY) ?_
    rintro SU QW ⟨KE,wE,rfl,rfl,Ov⟩
    refine OT.U hT 5 rfl (.nil (.seq (.seq (.seq (.region (.U hT 3 rfl (.load rfl rfl (Ld.one hT rfl hz rfl) rfl ?_)))))))
    refine OT.U hT 1 rfl (.split 135 rfl (fun MI=> ?_) (fun MI=> ?_))
    .
     refine OT.U hT 9 rfl (.nil (.seq (.cond_true rfl (.seq (.region (.build hT rfl Tryz.zeroValue159 rfl rfl rfl rfl (.ag hT rfl rfl rfl rfl pl rfl rfl rfl (.inl (Nat.le_refl _)) ?_)))))))
     refine OT.U hT 1 rfl (.nil (.seq (.ret (.of (rs:=[.cell 2 159,.tmp 3]) [_,_] ([]::hs) rfl (.cell rfl (Ld.af hT rfl hz rfl) (.tmp rfl .nil)) sl ?_))))
     try dsimp only[one]
     exact⟨[],_,BC,8,rfl,rfl,gL.none _ _ _,.bad rfl rfl (fun⟨n0,h0⟩=>by have:=(hn0 n0 h0).1;rw[MI]at this;cases this)⟩
    .
     refine OT.U hT 4 rfl (.split 139 rfl (fun yK=> ?_) (fun yK=> ?_))
     .
      have yK:(bS n).2≠0:=by simpa using yK
      refine OT.U hT 5 rfl (.nil (.seq (.cond_true rfl (.seq (.region (.build hT rfl Tryz.zeroValue159 rfl rfl rfl rfl (.ag hT rfl rfl rfl rfl pl rfl rfl rfl (.inl (Nat.le_refl _)) ?_)))))))
      refine OT.U hT 1 rfl (.nil (.seq (.ret (.of (rs:=[.cell 2 159,.tmp 3]) [_,_] ([]::hs) rfl (.cell rfl (Ld.af hT rfl hz rfl) (.tmp rfl .nil)) sl ?_))))
      try dsimp only[one]
      exact⟨[],_,BC,8,rfl,rfl,gL.none _ _ _,.bad rfl rfl (fun⟨n0,h0⟩=>by have:=(hn0 n0 h0).2;subst this;exact yK (ff.2 h0.1.fits))⟩
     .
      have yK:(bS n).2=0:=by simpa using yK
      refine OT.U hT 2 rfl (.call Tryz.call122 rfl rfl rfl rfl (Fq (Ov.row) (hr.there.there.there.there.there)) ?_)
      rintro SV QX ⟨rfl,rfl⟩
      refine OT.U hT 2 rfl (.nil (.seq (.cond rfl (fun yL=> ?_) (fun yL=> ?_))))
      .
       have yL:¬(bS n).1=bs:=by simpa using yL
       refine TT.seq (.region (.build hT rfl Tryz.zeroValue159 rfl rfl rfl rfl (.ag hT rfl rfl rfl rfl pl rfl rfl rfl (.inl (Nat.le_refl _)) ?_)))
       refine OT.U hT 1 rfl (.nil (.seq (.ret (.of (rs:=[.cell 2 159,.tmp 3]) [_,_] ([]::hs) rfl (.cell rfl (Ld.af hT rfl hz rfl) (.tmp rfl .nil)) sl ?_))))
       try dsimp only[one]
       exact⟨[],_,BC,8,rfl,rfl,gL.none _ _ _,.bad rfl rfl (fun⟨n0,h0⟩=>by have:=(hn0 n0 h0).2;subst this;exact yL h0.2.symm)⟩
      .
       have yL:(bS n).1=bs:=by simpa using yL
       refine TT.skip (.seq (.seq (.region (.load rfl rfl (Ld.af hT rfl hz hN.four) rfl ?_))))
       refine OT.ag hT rfl rfl rfl rfl pl (by exact hN.four) rfl hN.Jp (.inl (Nat.le_refl _)) ?_
       refine OT.U hT 1 rfl (.nil (.seq (.ret (.of (rs:=[.cell 2 159,.tmp 3]) [_,_] (K::hs) rfl (.cell rfl (Ld.af hT rfl hz hN.four) (.tmp rfl .nil)) sl ?_))))
       try dsimp only[one]
       exact⟨K,_,n,0,rfl,rfl,hN,.ok rfl ⟨⟨ff.1 yK,RY⟩,yL.symm⟩⟩
end Go.Proofs.YtihpkgmfkbkffaaGreat.Sx
end
section
namespace Go.Proofs.YtihpkgmfkbkffaaGreat.Sx
open Go Go.Sx Go.Pl
variable[aq]
set_option maxHeartbeats 1000000 in
set_option maxRecDepth 100000 in
theorem l5{u:Nat}{hs:List Chunk}:ax Tryz.prog 66 [.float .f64 u] hs (fun v' hs'=>v'= .int .u64 (u:Nat)/\hs=hs'):=by
 refine ax.enter 5 Tryz.func66 rfl Tryz.ntmps66 rfl ?_
 refine TT.seq (.region (.U hT 1 rfl (.nil (.seq (.seq (.region (.U hT 1 rfl (.extern (qP _) rfl rfl rfl rfl (.U hT 1 rfl (.nil (.seq (.ret (.of (rs:=[.tmp 2]) [_] hs rfl (.tmp rfl .nil) sl ?_)))))))))))))
 try dsimp only[one]
 exact⟨rfl,rfl⟩
set_option maxHeartbeats 1000000 in
set_option maxRecDepth 100000 in
theorem CJ{u w:Nat}{hs:List Chunk}:ax Tryz.prog 67 [.float .f64 u,.float .f64 w] hs (fun v' hs'=>v'= .bool (decide (u=w))/\hs=hs'):=by
 refine ax.enter 10 Tryz.func67 rfl Tryz.ntmps67 rfl ?_
 refine TT.seq (.region (.U hT 1 rfl (.nil (.seq (.seq (.region (.U hT 1 rfl (.call Tryz.call66 rfl rfl rfl rfl (l5) ?_))))))))
 rintro IV vz ⟨rfl,rfl⟩
 refine OT.U hT 1 rfl (.call Tryz.call66 rfl rfl rfl rfl (l5) ?_)
 rintro C_ qI ⟨rfl,rfl⟩
 refine OT.U hT 2 rfl (.nil (.seq (.ret (.of (rs:=[.tmp 4]) [_] hs rfl (.tmp rfl .nil) sl ?_))))
 try dsimp only[one]
 refine⟨congrArg Value.bool ?_,rfl⟩
 rw[Bool.eq_iff_iff,beq_iff_eq,decide_eq_true_eq]
 omega
set_option maxHeartbeats 1000000 in
set_option maxRecDepth 100000 in
theorem xq{u:Nat}(hu:u<2^64){hs:List Chunk}:ax Tryz.prog 112 [.float .f64 u] hs (fun v' hs'=>v'= .bool (jZ u)/\hs=hs'):=by
 refine ax.enter 14 Tryz.func112 rfl Tryz.ntmps112 rfl ?_
 refine TT.seq (.region (.U hT 1 rfl (.nil (.seq (.seq (.region (.U hT 1 rfl (.extern (qP _) rfl rfl rfl rfl (.U hT 1 rfl (.nil (.seq (.seq (.region (.U hT 2 rfl (.eH 7 rfl (v:= .int .u64 ((u&&&9218868437227405312:Nat):Int)) (int_eq (DN hu (by decide))) (.U hT 1 rfl (.U hT 1 rfl (.split 9 rfl (fun g9=> ?_) (fun g9=> ?_)))))))))))))))))))
 .
  have g9:u&&&9218868437227405312=9218868437227405312:=by
   have:=eq_of_beq g9
   omega
  refine OT.U hT 2 rfl (.eH 11 rfl (v:= .int .u64 ((u&&&4503599627370495:Nat):Int)) (int_eq (DN hu (by decide))) (.U hT 1 rfl (.U hT 2 rfl (.nil (.seq (.ret (.of (rs:=[.tmp 2]) [_] hs rfl (.tmp rfl .nil) sl ?_)))))))
  try dsimp only[one]
  refine⟨congrArg Value.bool ?_,rfl⟩
  rw[Ee,decide_eq_true g9,Bool.true_and,Bool.eq_iff_iff,bne_iff_ne,decide_eq_true_eq]
  omega
 .
  have g9:¬u&&&9218868437227405312=9218868437227405312:=by
   intro h;rw[h]at g9;exact absurd g9 (by decide)
  refine OT.U hT 5 rfl (.nil (.seq (.ret (.of (rs:=[.tmp 2]) [_] hs rfl (.tmp rfl .nil) sl ?_))))
  try dsimp only[one]
  refine⟨congrArg Value.bool ?_,rfl⟩
  rw[Ee,decide_eq_false g9,Bool.false_and]
set_option maxHeartbeats 1000000 in
set_option maxRecDepth 100000 in
theorem Ad{u:Nat}(hu:u<2^64){hs:List Chunk}:ax Tryz.prog 68 [.float .f64 u] hs (fun v' hs'=>v'= .float .f64 (ju u)/\hs=hs'):=by
 refine ax.enter 7 Tryz.func68 rfl Tryz.ntmps68 rfl ?_
 refine TT.seq (.region (.U hT 1 rfl (.nil (.seq (.seq (.seq (.region (.U hT 1 rfl (.call Tryz.call112 rfl rfl rfl rfl (xq hu) ?_)))))))))
 rintro O_ Jx ⟨rfl,rfl⟩
 refine OT.nil (.seq (.cond rfl (fun c4=> ?_) (fun c4=> ?_)))
 .
  refine TT.seq (.region (.extern (q9 _) rfl rfl rfl rfl (.U hT 1 rfl (.nil (.seq (.ret (.of (rs:=[.tmp 2]) [_] hs rfl (.tmp rfl .nil) sl ?_)))))))
  try dsimp only[one]
  exact⟨by unfold ju;rw[c4];rfl,rfl⟩
 .
  refine TT.skip (.seq (.seq (.region (.U hT 2 rfl (.nil (.seq (.ret (.of (rs:=[.tmp 2]) [_] hs rfl (.tmp rfl .nil) sl ?_))))))))
  try dsimp only[one]
  exact⟨by unfold ju;rw[c4];rfl,rfl⟩
set_option maxHeartbeats 1000000 in
set_option maxRecDepth 100000 in
theorem sq{u:Nat}(hu:u<2^64){hs:List Chunk}:ax Tryz.prog 62 [.float .f64 u] hs (fun v' hs'=>v'= .int .i64 (jv u)/\hs=hs'):=by
 refine ax.enter 18 Tryz.func62 rfl Tryz.ntmps62 rfl ?_
 refine TT.seq (.region (.U hT 1 rfl (.nil (.seq (.seq (.seq (.region (.U hT 1 rfl (.call Tryz.call112 rfl rfl rfl rfl (xq hu) ?_)))))))))
 rintro Ou JE ⟨rfl,rfl⟩
 refine OT.nil (.seq (.cond rfl (fun c5=> ?_) (fun c5=> ?_)))
 .
  refine TT.seq (.region (.U hT 1 rfl (.nil (.seq (.ret (.of (rs:=[.tmp 2]) [_] hs rfl (.tmp rfl .nil) sl ?_))))))
  try dsimp only[one]
  exact⟨int_eq (by unfold jv bT;rw[c5];rfl),rfl⟩
 .
  refine TT.skip (.seq (.seq (.region (.U hT 1 rfl (.extern (qP _) rfl rfl rfl rfl (.U hT 1 rfl (.nil (.seq (.seq (.seq (.region (.U hT 3 rfl (.nil (.seq (.cond rfl (fun c_=> ?_) (fun c_=> ?_))))))))))))))))
  .
   have c_:=beq_iff_eq.1 c_
   refine TT.seq (.region (.U hT 6 rfl (.nil (.seq (.ret (.of (rs:=[.tmp 2]) [_] hs rfl (.tmp rfl .nil) sl ?_))))))
   try dsimp only[one]
   exact⟨int_eq (Cn hu c5 c_),rfl⟩
  .
   have c_:=beq_eq_false_iff_ne.1 c_
   refine TT.skip (.seq (.seq (.region (.U hT 3 rfl (.nil (.seq (.ret (.of (rs:=[.tmp 2]) [_] hs rfl (.tmp rfl .nil) sl ?_))))))))
   try dsimp only[one]
   exact⟨int_eq (Co hu c5 c_),rfl⟩
set_option maxHeartbeats 1000000 in
set_option maxRecDepth 100000 in
theorem xX{s:ByteArray}{hs:List Chunk}:ax Tryz.prog 29 [.string s] hs (fun v' hs'=>v'= .bool (bp s)/\hs=hs'):=by
 refine ax.enter 11 Tryz.func29 rfl Tryz.ntmps29 rfl ?_
 have hz:=sN s
 refine TT.seq (.region (.U hT 1 rfl (.nil (.seq (.seq (.region (.U hT 4 rfl (.split 6 rfl (fun g6=> ?_) (fun g6=> ?_)))))))))
 .
  have g6:=of_decide_eq_true g6
  refine OT.U hT 5 rfl (.nil (.seq (.ret (.of (rs:=[.tmp 2]) [_] hs rfl (.tmp rfl .nil) sl ?_))))
  try dsimp only[one]
  refine⟨congrArg Value.bool ?_,rfl⟩
  unfold bp
  rw[decide_eq_true (show s≠⟨#[]⟩from fun h=>by have:=hz.2 h;omega),Bool.true_and]
  exact decide_eq_decide.2 (by omega)
 .
  have g6:=of_decide_eq_false g6
  refine OT.U hT 5 rfl (.nil (.seq (.ret (.of (rs:=[.tmp 2]) [_] hs rfl (.tmp rfl .nil) sl ?_))))
  try dsimp only[one]
  refine⟨congrArg Value.bool ?_,rfl⟩
  unfold bp
  rw[decide_eq_false (show¬s≠⟨#[]⟩from fun h=>h (hz.1 (by omega))),Bool.false_and]
set_option maxHeartbeats 1000000 in
set_option maxRecDepth 100000 in
theorem xY{x:Vl}(hu:x.f<2^64){hs:List Chunk}:ax Tryz.prog 30 [.agg ⟨bA x⟩] hs (fun v' hs'=>v'= .bool (bq x)/\hs=hs'):=by
 refine ax.enter 41 Tryz.func30 rfl Tryz.ntmps30 rfl ?_
 refine TT.seq (.region (.box rfl rfl rfl (fun b_1=> ?_)))
 refine OT.U hT 1 rfl (.nil (.seq (.seq (.seq (.region (.U hT 1 rfl (.load rfl rfl (Ld.one hT rfl hz rfl) rfl ?_)))))))
 refine OT.nil (.seq (.block (.seq (.region (.U hT 2 rfl (.nil (.seq (.cond rfl (fun c5=> ?_) (fun c5=> ?_)))))))))
 .
  have c5:=beq_iff_eq.1 c5
  refine TT.seq (.region (.U hT 1 rfl (.load rfl rfl (Ld.one hT rfl hz rfl) rfl ?_)))
  refine OT.call Tryz.call66 rfl rfl rfl rfl (l5) ?_
  rintro IW yG ⟨rfl,rfl⟩
  refine OT.U hT 2 rfl (.split 11 rfl (fun uk=> ?_) (fun uk=> ?_))
  .
   have uk:x.f=0:=by have:=eq_of_beq uk;omega
   refine OT.U hT 1 rfl (.load rfl rfl (Ld.one hT rfl hz rfl) rfl ?_)
   refine OT.U hT 3 rfl (.nil (.seq (.ret (.of (rs:=[.tmp 2]) [_] hs rfl (.tmp rfl .nil) sl ?_))))
   try dsimp only[one]
   refine⟨congrArg Value.bool ?_,rfl⟩
   unfold bq
   rw[if_pos c5]
   rw[decide_eq_true uk,Bool.true_and]
  .
   have uk:¬x.f=0:=fun h=>by rw[h]at uk;exact absurd uk (by decide)
   refine OT.U hT 5 rfl (.nil (.seq (.ret (.of (rs:=[.tmp 2]) [_] hs rfl (.tmp rfl .nil) sl ?_))))
   try dsimp only[one]
   refine⟨congrArg Value.bool ?_,rfl⟩
   unfold bq
   rw[if_pos c5]
   rw[decide_eq_false uk,Bool.false_and]
 .
  have c5:=beq_eq_false_iff_ne.1 c5
  refine TT.seq (.region (.U hT 2 rfl (.nil (.seq (.cond rfl (fun fy=> ?_) (fun fy=> ?_))))))
  .
   have fy:=beq_iff_eq.1 fy
   refine TT.seq (.draw (([(b_1,blk (bA x) 36 (0,0))]::hs)) mixed (.takes (fuel:=11) hT [0] kr kr rfl (.take (fuel:=10) hT 1 rfl rfl kr kr kr rfl (.load rfl (Ld.one hT rfl hz rfl)) rfl ?_)))
   refine AT.takes (fuel:=8) hT [2,3] kr kr rfl (.split 21 rfl (fun mm=> ?_) (fun mm=> ?_))
   .
    have mm:decide (x.s=⟨#[]⟩)=true:=mm
    refine AT.takes (fuel:=6) hT [4,7] kr kr rfl (.take (fuel:=5) hT 5 rfl rfl kr kr kr rfl (.load rfl (Ld.one hT rfl hz rfl)) rfl ?_)
    refine AT.take (fuel:=4) hT 8 rfl rfl kr kr kr rfl (.load rfl (Ld.one hT rfl hz rfl)) rfl ?_
    refine AT.op (fuel:=3) 6 kr rfl sl (.call Tryz.call68 rfl rfl rfl rfl (Ad hu) ?_)
    rintro BI sZ ⟨rfl,rfl⟩
    refine OT.nil (.any (.op (fuel:=2) 9 kr rfl sl (.call Tryz.call67 rfl rfl rfl rfl (CJ) ?_)))
    rintro BF wj ⟨rfl,rfl⟩
    refine OT.nil (.any (.takes (fuel:=0) hT [10,11] kr kr rfl (.done kr sl (.seq (.ret (.of (rs:=[.tmp 2]) [_] hs rfl (.tmp rfl .nil) sl ?_))))))
    try dsimp only[one]
    refine⟨congrArg Value.bool ?_,rfl⟩
    unfold bq
    rw[if_neg c5,if_pos fy]
    rw[mm,Bool.true_and]
    exact decide_eq_decide.2 eq_comm
   .
    have mm:decide (x.s=⟨#[]⟩)=false:=mm
    refine AT.takes (fuel:=0) hT [4,5,6,7,8,9,10,11] kr kr rfl (.done kr sl (.seq (.ret (.of (rs:=[.tmp 2]) [_] hs rfl (.tmp rfl .nil) sl ?_))))
    try dsimp only[one]
    refine⟨congrArg Value.bool ?_,rfl⟩
    unfold bq
    rw[if_neg c5,if_pos fy]
    rw[mm,Bool.false_and]
  .
   have fy:=beq_eq_false_iff_ne.1 fy
   refine TT.seq (.region (.U hT 2 rfl (.nil (.seq (.cond rfl (fun sU=> ?_) (fun sU=> ?_))))))
   .
    have sU:=beq_iff_eq.1 sU
    refine TT.seq (.region (.U hT 1 rfl (.load rfl rfl (Ld.one hT rfl hz rfl) rfl ?_)))
    refine OT.call Tryz.call66 rfl rfl rfl rfl (l5) ?_
    rintro Qw NC ⟨rfl,rfl⟩
    refine OT.U hT 2 rfl (.split 35 rfl (fun mo=> ?_) (fun mo=> ?_))
    .
     have mo:x.f=0:=by have:=eq_of_beq mo;omega
     refine OT.U hT 1 rfl (.load rfl rfl (Ld.one hT rfl hz rfl) rfl ?_)
     refine OT.U hT 4 rfl (.nil (.seq (.ret (.of (rs:=[.tmp 2]) [_] hs rfl (.tmp rfl .nil) sl ?_))))
     try dsimp only[one]
     refine⟨congrArg Value.bool ?_,rfl⟩
     unfold bq
     rw[if_neg c5,if_neg fy,if_pos sU]
     rw[decide_eq_true mo,Bool.true_and]
     exact decide_eq_decide.2 (by omega)
    .
     have mo:¬x.f=0:=fun h=>by rw[h]at mo;exact absurd mo (by decide)
     refine OT.U hT 6 rfl (.nil (.seq (.ret (.of (rs:=[.tmp 2]) [_] hs rfl (.tmp rfl .nil) sl ?_))))
     try dsimp only[one]
     refine⟨congrArg Value.bool ?_,rfl⟩
     unfold bq
     rw[if_neg c5,if_neg fy,if_pos sU]
     rw[decide_eq_false mo,Bool.false_and]
   .
    have sU:=beq_eq_false_iff_ne.1 sU
    refine TT.skip (.blk (.seq (.seq (.region (.U hT 1 rfl (.nil (.seq (.ret (.of (rs:=[.tmp 2]) [_] hs rfl (.tmp rfl .nil) sl ?_)))))))))
    try dsimp only[one]
    refine⟨congrArg Value.bool ?_,rfl⟩
    unfold bq
    rw[if_neg c5,if_neg fy,if_neg sU]
set_option maxHeartbeats 1000000 in
set_option maxRecDepth 100000 in
theorem jL{x y:Vl}(hx:x.f<2^64)(hy:y.f<2^64){hs:List Chunk}:ax Tryz.prog 22 [.agg ⟨bA x⟩,.agg ⟨bA y⟩] hs (fun v' hs'=>v'= .bool (BB x y)/\hs=hs'):=by
 refine ax.enter 26 Tryz.func22 rfl Tryz.ntmps22 rfl ?_
 refine TT.seq (.region (.box rfl rfl rfl (fun b_2=> ?_)))
 refine OT.box rfl rfl rfl (fun jt=> ?_)
 refine OT.U hT 1 rfl (.nil (.seq (.seq (.draw (([(jt,blk (bA y) 36 (0,0))]::[(b_2,blk (bA x) 36 (0,0))]::hs)) mixed (.takes (fuel:=20) hT [0,2] kr kr rfl (.take (fuel:=19) hT 1 rfl rfl kr kr kr rfl (.load rfl (Ld.one hT rfl hz rfl)) rfl ?_))))))
 refine AT.take (fuel:=18) hT 3 rfl rfl kr kr kr rfl (.load rfl (Ld.one hT rfl hz rfl)) rfl ?_
 refine AT.takes (fuel:=16) hT [4,5] kr kr rfl (.split 10 rfl (fun qi=> ?_) (fun qi=> ?_))
 .
  have qi:x.kind=y.kind:=eq_of_beq qi
  refine AT.takes (fuel:=14) hT [6,8] kr kr rfl (.take (fuel:=13) hT 7 rfl rfl kr kr kr rfl (.load rfl (Ld.one hT rfl hz rfl)) rfl ?_)
  refine AT.take (fuel:=12) hT 9 rfl rfl kr kr kr rfl (.load rfl (Ld.one hT rfl hz rfl)) rfl ?_
  refine AT.takes (fuel:=9) hT [10,11,12] kr kr rfl (.split 17 rfl (fun I1=> ?_) (fun I1=> ?_))
  .
   have I1:decide (x.s=y.s)=true:=I1
   refine AT.takes (fuel:=7) hT [13,16] kr kr rfl (.take (fuel:=6) hT 14 rfl rfl kr kr kr rfl (.load rfl (Ld.one hT rfl hz rfl)) rfl ?_)
   refine AT.take (fuel:=5) hT 17 rfl rfl kr kr kr rfl (.load rfl (Ld.one hT rfl hz rfl)) rfl ?_
   refine AT.op (fuel:=4) 15 kr rfl sl (.call Tryz.call62 rfl rfl rfl rfl (sq hx) ?_)
   rintro ug qR ⟨rfl,rfl⟩
   refine OT.nil (.any (.op (fuel:=3) 18 kr rfl sl (.call Tryz.call62 rfl rfl rfl rfl (sq hy) ?_)))
   rintro yH sY ⟨rfl,rfl⟩
   refine OT.nil (.any (.takes (fuel:=0) hT [19,20,21] kr kr rfl (.done kr sl (.seq (.ret (.of (rs:=[.tmp 4]) [_] hs rfl (.tmp rfl .nil) sl ?_))))))
   try dsimp only[one]
   refine⟨congrArg Value.bool ?_,rfl⟩
   unfold BB
   rw[decide_eq_true qi,I1,Bool.true_and,Bool.true_and,Bool.eq_iff_iff,beq_iff_eq,decide_eq_true_eq]
   exact Cm
  .
   have I1:decide (x.s=y.s)=false:=I1
   refine AT.takes (fuel:=0) hT [13,14,15,16,17,18,19,20,21] kr kr rfl (.done kr sl (.seq (.ret (.of (rs:=[.tmp 4]) [_] hs rfl (.tmp rfl .nil) sl ?_))))
   try dsimp only[one]
   refine⟨congrArg Value.bool ?_,rfl⟩
   unfold BB
   rw[decide_eq_true qi,I1];rfl
 .
  have qi:¬x.kind=y.kind:=fun h=>by rw[h]at qi;simp at qi
  refine AT.takes (fuel:=0) hT [6,7,8,9,10,11,12,13,14,15,16,17,18,19,20,21] kr kr rfl (.done kr sl (.seq (.ret (.of (rs:=[.tmp 4]) [_] hs rfl (.tmp rfl .nil) sl ?_))))
  try dsimp only[one]
  refine⟨congrArg Value.bool ?_,rfl⟩
  unfold BB
  rw[decide_eq_false qi];rfl
set_option maxHeartbeats 1000000 in
set_option maxRecDepth 100000 in
theorem GY{s a b:ByteArray}{hs:List Chunk}:ax Tryz.prog 69 [.string s,.string a,.string b] hs (fun v' hs'=>v'= .bool (bu s a b)/\hs=hs'):=by
 refine ax.enter 19 Tryz.func69 rfl Tryz.ntmps69 rfl ?_
 refine TT.seq (.region (.U hT 1 rfl (.nil (.seq (.seq (.region (.U hT 4 rfl (.split 10 rfl (fun qi=> ?_) (fun qi=> ?_)))))))))
 .
  refine OT.U hT 3 rfl (.split 13 rfl (fun pP=> ?_) (fun pP=> ?_))
  .
   refine OT.U hT 6 rfl (.nil (.seq (.ret (.of (rs:=[.tmp 6]) [_] hs rfl (.tmp rfl .nil) sl ?_))))
   try dsimp only[one]
   refine⟨congrArg Value.bool ?_,rfl⟩
   unfold bu
   rw[show(!bY s a)=true from qi,pP];rfl
  .
   refine OT.U hT 6 rfl (.nil (.seq (.ret (.of (rs:=[.tmp 6]) [_] hs rfl (.tmp rfl .nil) sl ?_))))
   try dsimp only[one]
   refine⟨congrArg Value.bool ?_,rfl⟩
   unfold bu
   rw[show(!bY s a)=true from qi,pP];rfl
 .
  refine OT.U hT 9 rfl (.nil (.seq (.ret (.of (rs:=[.tmp 6]) [_] hs rfl (.tmp rfl .nil) sl ?_))))
  try dsimp only[one]
  refine⟨congrArg Value.bool ?_,rfl⟩
  unfold bu
  rw[show(!bY s a)=false from qi];rfl
end Go.Proofs.YtihpkgmfkbkffaaGreat.Sx
end
section
namespace Go.Proofs.YtihpkgmfkbkffaaGreat.Sx
open Go Go.Sx Go.Pl
variable[aq]
set_option maxHeartbeats 1000000 in
set_option maxRecDepth 100000 in
theorem CK{x:Vl}{hs:List Chunk}:ax Tryz.prog 26 [.agg ⟨bA x⟩] hs (fun v' hs'=>v'= .agg ⟨bA (HY x)⟩/\hs=hs'):=by
 refine ax.enter 8 Tryz.func26 rfl Tryz.ntmps26 rfl ?_
 refine TT.seq (.region (.box rfl rfl rfl (fun b_1=> ?_)))
 refine OT.alloc Tryz.zeroValue36 rfl rfl (fun b_2=> ?_)
 refine OT.nil (.seq (.seq (.region (.U hT 1 rfl (.load rfl rfl (Ld.one hT rfl hz rfl) rfl ?_)))))
 refine OT.call Tryz.call25 rfl rfl rfl rfl (rK (n:=25)) ?_
 rintro Ou JE ⟨rfl,rfl⟩
 refine OT.U hT 1 rfl (.store hT rfl rfl rfl rfl pl rfl (Nat.le_of_ble_eq_true rfl) rfl (.inl (Nat.le_refl _)) rfl ?_)
 refine OT.nil (.seq (.seq (.region (.load rfl rfl (Ld.af hT rfl hz rfl) rfl ?_))))
 refine OT.ag hT rfl rfl rfl rfl pl rfl rfl rfl (.inl (Nat.le_refl _)) ?_
 refine OT.nil (.seq (.ret (.of (rs:=[.cell 2 36]) [_] hs rfl (.cell rfl (Ld.af hT rfl hz rfl) .nil) sl ?_)))
 try dsimp only[one]
 exact⟨rfl,rfl⟩
end Go.Proofs.YtihpkgmfkbkffaaGreat.Sx
end
