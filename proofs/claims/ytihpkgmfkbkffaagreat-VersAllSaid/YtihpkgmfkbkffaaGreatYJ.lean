/- Several texts in one. Two versions: seen, written, ended. Printed by a program of ours off the loaded program and our notes; Lean checks it. Two versions: what a transaction wrote ends. Printed by a program of ours off the loaded program and our notes; Lean checks it. The laws' beginning. Printed by a program of ours off the loaded program and our notes; Lean checks it. What the laws of two versions are made of. Printed by a program of ours off the loaded program and our notes; Lean checks it. Pairs in order. Printed by a program of ours off the loaded program and our notes; Lean checks it. The document's book of two versions. Printed by a program of ours off the loaded program and our notes; Lean checks it. Laws of two versions: all of it, step by step. Printed by a program of ours off the loaded program and our notes; Lean checks it. -/
import Derived.Test.YtihpkgmfkbkffaaGreatYI
import Derived.Test.YtihpkgmfkbkffaaGreatYB
import Derived.Test.YtihpkgmfkbkffaaGreatYD
import Derived.Test.YtihpkgmfkbkffaaGreatYF
import Derived.Test.YtihpkgmfkbkffaaGreatYE
set_option linter.unusedVariables false
set_option linter.unusedSimpArgs false
set_option linter.unusedSectionVars false
section
namespace Go.Proofs.YtihpkgmfkbkffaaGreat.Sx
open Go Go.Sx Go.Pl
variable[aq]
set_option maxHeartbeats 1000000 in
set_option maxRecDepth 100000 in
theorem Ev{x:Cell}{t:Int}{hs:List Chunk}:ax Tryz.prog 61 [.agg ⟨aj x⟩,.int .i64 t] hs (fun v' hs'=>v'= .agg ⟨bA (iw x t)⟩/\hs=hs'):=by
 refine ax.enter 17 Tryz.func61 rfl Tryz.ntmps61 rfl ?_
 refine TT.seq (.region (.box rfl rfl rfl (fun b_2=> ?_)))
 refine OT.alloc Tryz.zeroValue36 rfl rfl (fun nG=> ?_)
 refine OT.nil (.seq (.seq (.seq (.region (.U hT 3 rfl (.split 7 rfl (fun g7=> ?_) (fun g7=> ?_)))))))
 .
  have g7:0<t:=of_decide_eq_true g7
  refine OT.U hT 1 rfl (.load rfl rfl (Ld.one hT rfl hz rfl) rfl ?_)
  refine OT.U hT 3 rfl (.nil (.seq (.cond rfl (fun ew=> ?_) (fun ew=> ?_))))
  .
   have ew:x.aV=t:=eq_of_beq ew
   refine TT.seq (.region (.U hT 1 rfl (.load rfl rfl (Ld.struct (vs:=bA (x).new) hT rfl hz rfl rfl) rfl ?_)))
   refine OT.ag hT rfl rfl rfl rfl pl rfl rfl rfl (.inl (Nat.le_refl _)) ?_
   refine OT.nil (.seq (.ret (.of (rs:=[.cell 4 36]) [_] hs rfl (.cell rfl (Ld.af hT rfl hz rfl) .nil) sl ?_)))
   try dsimp only[one]
   exact⟨by unfold iw;rw[if_pos ⟨g7,ew⟩];rfl,rfl⟩
  .
   have ew:¬x.aV=t:=fun h=>by rw[h]at ew;simp at ew
   refine TT.skip (.seq (.seq (.region (.U hT 1 rfl (.load rfl rfl (Ld.struct (vs:=bA (x).val) hT rfl hz rfl rfl) rfl ?_)))))
   refine OT.ag hT rfl rfl rfl rfl pl rfl rfl rfl (.inl (Nat.le_refl _)) ?_
   refine OT.nil (.seq (.ret (.of (rs:=[.cell 4 36]) [_] hs rfl (.cell rfl (Ld.af hT rfl hz rfl) .nil) sl ?_)))
   try dsimp only[one]
   exact⟨by unfold iw;rw[if_neg (fun h=>ew h.2)];rfl,rfl⟩
 .
  have g7:¬0<t:=of_decide_eq_false g7
  refine OT.U hT 5 rfl (.nil (.seq (.cond_false rfl (.skip (.seq (.seq (.region (.U hT 1 rfl (.load rfl rfl (Ld.struct (vs:=bA (x).val) hT rfl hz rfl rfl) rfl ?_)))))))))
  refine OT.ag hT rfl rfl rfl rfl pl rfl rfl rfl (.inl (Nat.le_refl _)) ?_
  refine OT.nil (.seq (.ret (.of (rs:=[.cell 4 36]) [_] hs rfl (.cell rfl (Ld.af hT rfl hz rfl) .nil) sl ?_)))
  try dsimp only[one]
  exact⟨by unfold iw;rw[if_neg (fun h=>g7 h.1)];rfl,rfl⟩
set_option maxHeartbeats 1000000 in
set_option maxRecDepth 100000 in
theorem je{x:Cell}{t:Int}{v:Vl}{hs:List Chunk}:ax Tryz.prog 55 [.agg ⟨aj x⟩,.int .i64 t,.agg ⟨bA v⟩] hs (fun v' hs'=>v'= .agg ⟨aj ⟨x.key,x.val,t,v⟩⟩/\hs=hs'):=by
 refine ax.enter 12 Tryz.func55 rfl Tryz.ntmps55 rfl ?_
 refine TT.seq (.region (.box rfl rfl rfl (fun jt=> ?_)))
 refine OT.box rfl rfl rfl (fun eM=> ?_)
 refine OT.alloc Tryz.zeroValue113 rfl rfl (fun gB=> ?_)
 refine OT.nil (.seq (.seq (.draw (hs) mixed (.takes (fuel:=4) hT [0,2] kr kr rfl (.all (fuel:=3) [1,3] kr (by decide) sl ?_)))))
 intro i hi
 simp only[List.mem_cons,List.not_mem_nil,or_false]at hi
 rcases hi with rfl|rfl
 .
  refine⟨_,rfl,?_⟩
  refine OT.load rfl rfl (Ld.af hT rfl hz rfl) rfl ?_
  refine OT.nil (.any (.op (fuel:=2) 3 kr rfl sl (.store hT rfl rfl rfl rfl pl rfl (Nat.le_of_ble_eq_true rfl) rfl (.inl (Nat.le_refl _)) rfl ?_)))
  refine OT.nil (.any (.takes (fuel:=1) hT [4] kr kr rfl (.op (fuel:=0) 5 kr rfl sl (.store hT rfl rfl rfl rfl pl rfl (Nat.le_of_ble_eq_true rfl) rfl (.inl (Nat.le_refl _)) rfl ?_))))
  refine OT.nil (.any (.done kr sl (.seq (.seq (.region (.load rfl rfl (Ld.af hT rfl hz rfl) rfl ?_))))))
  refine OT.ag hT rfl rfl rfl rfl pl rfl rfl rfl (.inl (Nat.le_refl _)) ?_
  refine OT.nil (.seq (.ret (.of (rs:=[.cell 6 113]) [_] hs rfl (.cell rfl (Ld.af hT rfl hz rfl) .nil) sl ?_)))
  try dsimp only[one]
  exact⟨rfl,rfl⟩
 .
  refine⟨_,rfl,?_⟩
  refine OT.store hT rfl rfl rfl rfl pl rfl (Nat.le_of_ble_eq_true rfl) rfl (.inl (Nat.le_refl _)) rfl ?_
  refine OT.nil (.any (.op (fuel:=2) 1 kr rfl sl (.load rfl rfl (Ld.af hT rfl hz rfl) rfl ?_)))
  refine OT.nil (.any (.takes (fuel:=1) hT [4] kr kr rfl (.op (fuel:=0) 5 kr rfl sl (.store hT rfl rfl rfl rfl pl rfl (Nat.le_of_ble_eq_true rfl) rfl (.inl (Nat.le_refl _)) rfl ?_))))
  refine OT.nil (.any (.done kr sl (.seq (.seq (.region (.load rfl rfl (Ld.af hT rfl hz rfl) rfl ?_))))))
  refine OT.ag hT rfl rfl rfl rfl pl rfl rfl rfl (.inl (Nat.le_refl _)) ?_
  refine OT.nil (.seq (.ret (.of (rs:=[.cell 6 113]) [_] hs rfl (.cell rfl (Ld.af hT rfl hz rfl) .nil) sl ?_)))
  try dsimp only[one]
  exact⟨rfl,rfl⟩
def wB(c:Cell):Cell×Bool:=if c.val.kind=0 then(noCell,false)else(c,true)
set_option maxHeartbeats 1000000 in
set_option maxRecDepth 100000 in
theorem Hh{x:Cell}{hs:List Chunk}:ax Tryz.prog 113 [.agg ⟨aj x⟩] hs (fun v' hs'=>v'= .tuple ⟨[.agg ⟨aj (wB x).1⟩,.bool (wB x).2]⟩/\hs=hs'):=by
 refine ax.enter 9 Tryz.func113 rfl Tryz.ntmps113 rfl ?_
 refine TT.seq (.region (.box rfl rfl rfl (fun b_1=> ?_)))
 refine OT.alloc Tryz.zeroValue113 rfl rfl (fun b_2=> ?_)
 refine OT.U hT 1 rfl (.nil (.seq (.seq (.seq (.region (.U hT 1 rfl (.load rfl rfl (Ld.struct (vs:=bA (x).val) hT rfl hz rfl rfl) rfl ?_)))))))
 refine OT.call Tryz.call140 rfl rfl rfl rfl (uS) ?_
 rintro IV vz ⟨rfl,rfl⟩
 refine OT.nil (.seq (.cond rfl (fun c6=> ?_) (fun c6=> ?_)))
 .
  have c6:x.val.kind=0:=of_decide_eq_true c6
  refine TT.seq (.region (.build (cs:=aj noCell) hT rfl Tryz.zeroValue113 rfl rfl rfl rfl (.ag hT rfl rfl rfl rfl pl rfl rfl rfl (.inl (Nat.le_refl _)) ?_)))
  refine OT.U hT 1 rfl (.nil (.seq (.ret (.of (rs:=[.cell 2 113,.tmp 3]) [_,_] hs rfl (.cell rfl (Ld.af hT rfl hz rfl) (.tmp rfl .nil)) sl ?_))))
  try dsimp only[one]
  exact⟨by unfold wB;rw[if_pos c6];rfl,rfl⟩
 .
  have c6:¬x.val.kind=0:=of_decide_eq_false c6
  refine TT.skip (.seq (.seq (.region (.load rfl rfl (Ld.af hT rfl hz rfl) rfl ?_))))
  refine OT.ag hT rfl rfl rfl rfl pl rfl rfl rfl (.inl (Nat.le_refl _)) ?_
  refine OT.U hT 1 rfl (.nil (.seq (.ret (.of (rs:=[.cell 2 113,.tmp 3]) [_,_] hs rfl (.cell rfl (Ld.af hT rfl hz rfl) (.tmp rfl .nil)) sl ?_))))
  try dsimp only[one]
  exact⟨by unfold wB;rw[if_neg c6];rfl,rfl⟩
set_option maxHeartbeats 1000000 in
set_option maxRecDepth 100000 in
theorem qB{x:Cell}{hs:List Chunk}:ax Tryz.prog 64 [.agg ⟨aj x⟩] hs (fun v' hs'=>v'= .tuple ⟨[.agg ⟨aj (ez x).1⟩,.bool (ez x).2]⟩/\hs=hs'):=by
 refine ax.enter 11 Tryz.func64 rfl Tryz.ntmps64 rfl ?_
 refine TT.seq (.region (.box rfl rfl rfl (fun b_1=> ?_)))
 refine OT.alloc Tryz.zeroValue113 rfl rfl (fun b_2=> ?_)
 refine OT.U hT 1 rfl (.nil (.seq (.seq (.region (.build (cs:=bA aW) hT rfl Tryz.zeroValue36 rfl rfl rfl rfl (.U hT 1 rfl (.store hT rfl rfl rfl rfl pl rfl (Nat.le_of_ble_eq_true rfl) rfl (.inl (Nat.le_refl _)) rfl ?_)))))))
 refine OT.U hT 1 rfl (.store hT rfl rfl rfl rfl pl rfl (Nat.le_of_ble_eq_true rfl) rfl (.inl (Nat.le_refl _)) rfl ?_)
 refine OT.nil (.seq (.seq (.region (.load rfl rfl (Ld.af (cs:=aj {x with aV:=0,new:=aW}) hT rfl hz rfl) rfl ?_))))
 refine OT.call Tryz.call113 rfl rfl rfl rfl (Hh (x:={x with aV:=0,new:=aW})) ?_
 rintro C_ qI ⟨rfl,rfl⟩
 refine OT.U hT 2 rfl (.ag hT rfl rfl rfl rfl pl rfl rfl rfl (.inl (Nat.le_refl _)) ?_)
 refine OT.U hT 1 rfl (.nil (.seq (.ret (.of (rs:=[.cell 2 113,.tmp 3]) [_,_] hs rfl (.cell rfl (Ld.af hT rfl hz rfl) (.tmp rfl .nil)) sl ?_))))
 try dsimp only[one]
 refine⟨?_,rfl⟩
 unfold wB ez
 dsimp only
 split<;>rfl
set_option maxHeartbeats 1000000 in
set_option maxRecDepth 100000 in
theorem CT{x:Cell}{hs:List Chunk}:ax Tryz.prog 59 [.agg ⟨aj x⟩] hs (fun v' hs'=>v'= .tuple ⟨[.agg ⟨aj (cR x).1⟩,.bool (cR x).2]⟩/\hs=hs'):=by
 refine ax.enter 14 Tryz.func59 rfl Tryz.ntmps59 rfl ?_
 refine TT.seq (.region (.box rfl rfl rfl (fun b_1=> ?_)))
 refine OT.alloc Tryz.zeroValue113 rfl rfl (fun b_2=> ?_)
 refine OT.U hT 1 rfl (.nil (.seq (.seq (.seq (.region (.U hT 1 rfl (.load rfl rfl (Ld.one hT rfl hz rfl) rfl ?_)))))))
 refine OT.U hT 1 rfl (.nil (.seq (.cond rfl (fun c6=> ?_) (fun c6=> ?_))))
 .
  have c6:0<x.aV:=of_decide_eq_true c6
  refine TT.region (.U hT 1 rfl (.load rfl rfl (Ld.struct (vs:=bA (x).new) hT rfl hz rfl rfl) rfl ?_))
  refine OT.U hT 1 rfl (.store hT rfl rfl rfl rfl pl rfl (Nat.le_of_ble_eq_true rfl) rfl (.inl (Nat.le_refl _)) rfl ?_)
  refine OT.nil (.seq (.seq (.region (.load rfl rfl (Ld.af (cs:=aj {x with val:=x.new}) hT rfl hz rfl) rfl ?_))))
  refine OT.call Tryz.call64 rfl rfl rfl rfl (qB (x:={x with val:=x.new})) ?_
  rintro oH iV ⟨rfl,rfl⟩
  refine OT.U hT 2 rfl (.ag hT rfl rfl rfl rfl pl rfl rfl rfl (.inl (Nat.le_refl _)) ?_)
  refine OT.U hT 1 rfl (.nil (.seq (.ret (.of (rs:=[.cell 2 113,.tmp 3]) [_,_] hs rfl (.cell rfl (Ld.af hT rfl hz rfl) (.tmp rfl .nil)) sl ?_))))
  try dsimp only[one]
  exact⟨by unfold cR;rw[if_pos c6];rfl,rfl⟩
 .
  have c6:¬0<x.aV:=of_decide_eq_false c6
  refine TT.skip (.seq (.seq (.region (.load rfl rfl (Ld.af hT rfl hz rfl) rfl ?_))))
  refine OT.call Tryz.call64 rfl rfl rfl rfl (qB (x:=x)) ?_
  rintro oH iV ⟨rfl,rfl⟩
  refine OT.U hT 2 rfl (.ag hT rfl rfl rfl rfl pl rfl rfl rfl (.inl (Nat.le_refl _)) ?_)
  refine OT.U hT 1 rfl (.nil (.seq (.ret (.of (rs:=[.cell 2 113,.tmp 3]) [_,_] hs rfl (.cell rfl (Ld.af hT rfl hz rfl) (.tmp rfl .nil)) sl ?_))))
  try dsimp only[one]
  exact⟨by unfold cR;rw[if_neg c6];rfl,rfl⟩
set_option maxHeartbeats 1000000 in
set_option maxRecDepth 100000 in
theorem D5{t:Int}{hs:List Chunk}:ax Tryz.prog 50 [.int .i64 t] hs (fun v' hs'=>v'= .bool (iY t)/\hs=hs'):=by
 refine ax.enter 9 Tryz.func50 rfl Tryz.ntmps50 rfl ?_
 refine TT.seq (.region (.U hT 1 rfl (.nil (.seq (.seq (.region (.U hT 3 rfl (.split 5 rfl (fun g5=> ?_) (fun g5=> ?_)))))))))
 .
  refine OT.U hT 4 rfl (.nil (.seq (.ret (.of (rs:=[.tmp 2]) [_] hs rfl (.tmp rfl .nil) sl ?_))))
  try dsimp only[one]
  refine⟨congrArg Value.bool ?_,rfl⟩
  unfold iY
  rw[show decide (1<=t)=true from g5,Bool.true_and]
 .
  refine OT.U hT 4 rfl (.nil (.seq (.ret (.of (rs:=[.tmp 2]) [_] hs rfl (.tmp rfl .nil) sl ?_))))
  try dsimp only[one]
  refine⟨congrArg Value.bool ?_,rfl⟩
  unfold iY
  rw[show decide (1<=t)=false from g5,Bool.false_and]
set_option maxHeartbeats 1000000 in
set_option maxRecDepth 100000 in
theorem K7{P:Value}{I:Chunk->Prop}{Qb:ah}(hP:cM Tryz.prog 5 P I (fun _ _=>False) (aI Qb))(hQ:cC Qb){b:Nat}{g:az}{H:Chunk}{r:List Chunk}(hH:ej 110 b P I Qb g H){t:Int}{k:ByteArray}:ax Tryz.prog 20 [.iface 24 (.pointer (some ⟨b,0,none⟩)),.int .i64 t,.string k] (H::r) (fun v' hs'=>∃H',hs'=H'::r/\v'= .tuple ⟨[.agg ⟨bA (oF g.2 t k)⟩,.int .i64 0]⟩/\ej 110 b P I Qb g H'):=by
 refine ax.enter 29 Tryz.func20 rfl Tryz.ntmps20 rfl ?_
 refine TT.seq (.region (.alloc Tryz.zeroValue36 rfl rfl (fun gB=> ?_)))
 refine OT.U hT 1 rfl (.nil (.seq (.seq (.region (.U hT 2 rfl (.call Tryz.call53 rfl rfl rfl rfl (ax.pull pl (Eu hP hQ hH (k:=k))) ?_))))))
 rintro Dp wh ⟨H1,rfl,rfl,oE⟩
 have PK:oF g.2 t k=match cq g.2 k with|some c=>iw c t|none=>aW:=rfl
 generalize cq g.2 k=o at PK⊢
 rcases o with _|z
 .
  refine OT.U hT 4 rfl (.alloc Tryz.zeroValue113 rfl rfl (fun l8=> ?_))
  refine OT.ag hT rfl rfl rfl rfl pl rfl rfl rfl (.inl (Nat.le_refl _)) ?_
  refine OT.U hT 2 rfl (.nil (.seq (.seq (.seq (.region (.U hT 3 rfl (.U hT 3 rfl (.nil (.seq (.cond_true rfl (.seq (.region (.build (cs:=bA aW) hT rfl Tryz.zeroValue36 rfl rfl rfl rfl (.U hT 1 rfl (.ag hT rfl rfl rfl rfl pl rfl rfl rfl (.inl (Nat.le_refl _)) ?_)))))))))))))))
  refine OT.U hT 1 rfl (.nil (.seq (.ret (.of (rs:=[.cell 6 36,.tmp 7]) [_,_] (H1::r) rfl (.cell rfl (Ld.af hT rfl hz rfl) (.tmp rfl .nil)) sl ?_))))
  try dsimp only[one]
  exact⟨H1,rfl,by rw[PK];rfl,oE⟩
 .
  refine OT.U hT 4 rfl (.alloc Tryz.zeroValue113 rfl rfl (fun l8=> ?_))
  refine OT.ag hT rfl rfl rfl rfl pl rfl rfl rfl (.inl (Nat.le_refl _)) ?_
  refine OT.U hT 2 rfl (.nil (.seq (.seq (.seq (.region (.U hT 3 rfl (.U hT 3 rfl (.nil (.seq (.cond_false rfl (.skip (.seq (.seq (.region (.load rfl rfl (Ld.af (cs:=aj z) hT rfl hz rfl) rfl ?_)))))))))))))))
  refine OT.U hT 1 rfl (.call Tryz.call61 rfl rfl rfl rfl (Ev (x:=z)) ?_)
  rintro JR Ix ⟨rfl,rfl⟩
  refine OT.ag hT rfl rfl rfl rfl pl rfl rfl rfl (.inl (Nat.le_refl _)) ?_
  refine OT.U hT 1 rfl (.nil (.seq (.ret (.of (rs:=[.cell 6 36,.tmp 7]) [_,_] (H1::r) rfl (.cell rfl (Ld.af hT rfl hz rfl) (.tmp rfl .nil)) sl ?_))))
  try dsimp only[one]
  exact⟨H1,rfl,by rw[PK];rfl,oE⟩
set_option maxHeartbeats 2000000 in
set_option maxRecDepth 100000 in
theorem Fy{P:Value}{I:Chunk->Prop}{Qb:ah}(hP:cM Tryz.prog 5 P I (fun _ _=>False) (aI Qb))(hQ:cC Qb){b:Nat}{g:az}{H:Chunk}{r:List Chunk}(hH:ej 110 b P I Qb g H){t:Int}{s e:ByteArray}:ax Tryz.prog 19 [.iface 24 (.pointer (some ⟨b,0,none⟩)),.int .i64 t,.string s,.string e] (H::r) (fun v' hs'=>∃H' K v,hs'=H'::K::r/\v'= .tuple ⟨[v,.int .i64 0]⟩/\Own bL 4 60 v (iJ g.2 t s e) K/\ej 110 b P I Qb g H'):=by
 refine ax.enter 47 Tryz.func19 rfl Tryz.ntmps19 rfl ?_
 obtain⟨_,Ok,_,_,_⟩:=hH.small
 refine TT.seq (.region (.U hT 2 rfl (.nil (.seq (.seq (.region (.U hT 3 rfl (.call Tryz.call60 rfl rfl rfl rfl (Bv hP hQ hH) ?_))))))))
 rintro ug qR ⟨H1,K1,v1,rfl,rfl,dU,oE⟩
 have hfl:=List.length_filter_le (fun c=>bu c.key s e) g.2
 have Sd:iJ g.2 t s e=(g.2.filter fun c=>bu c.key s e).filterMap (dn t):=rfl
 generalize(g.2.filter fun c=>bu c.key s e)=l at dU Sd hfl⊢
 obtain⟨a1,c1,PL⟩:=(dU.row (hs:=[])).len
 subst PL
 refine OT.U hT 5 rfl (.nil (.seq (.seq (.seq (.region (.U hT 2 rfl (.nil (.seq (.cond_false rfl (.skip (.seq (.seq (.region (.U hT 1 rfl (.nil (.seq (.seq (.seq (.region (.U hT 3 rfl (.nil (.seq (.block (.loop (ι:=Nat×Value×Chunk) (fun j=>(j.1)<=l.length/\Own bL 4 60 (j.2.1) ((l.take (j.1)).filterMap (dn t)) (j.2.2)) (fun j=>l.length-(j.1)) (fun j=>[(1,.int .i64 t),(12,(j.2.1)),(26,.slice a1 l.length c1),(27,.int .i64 (l.length:Nat)),(28,.int .i64 ((j.1):Nat))]) (fun j=>(j.2.2)::H1::K1::r) (0,.slice none 0 0,[]) ?_ (aa.cons rfl (aa.cons rfl (aa.cons rfl (aa.cons rfl (aa.cons rfl (aa.nil _)))))) (.empty sl) ?_))))))))))))))))))))))))
 . dsimp only
   exact⟨Nat.zero_le _,Own.nil⟩
 rintro⟨i,w,K⟩ hI
 dsimp only at hI
 obtain⟨hi,oD⟩:=hI
 show TT _ _ _ [(1,.int .i64 t),(12,w),(26,.slice a1 l.length c1),(27,.int .i64 (l.length:Nat)),(28,.int .i64 (i:Nat))] (K::H1::K1::r)
 refine TT.seq (.region (.U hT 1 rfl (.nil (.seq (.seq (.cond rfl (fun sU=> ?_) (fun sU=> ?_)))))))
 .
  have sU:=of_decide_eq_true sU
  obtain⟨x,hx⟩:=nth (l:=l) (i:=i) (by omega)
  have Xi:=List.length_filterMap_le (dn t) (l.take i)
  have yl:=List.length_take_le i l
  have Oe:(l.take (i+1)).filterMap (dn t)=(l.take i).filterMap (dn t)++(dn t x).toList:=by
   rw[List.take_add_one,hx,Option.toList_some,List.filterMap_append,show List.filterMap (dn t) [x]=(dn t x).toList by rw[List.filterMap_cons];cases dn t x<;>rfl]
  refine TT.skip (.seq (.seq (.block (.seq (.region (.index hT rfl rfl rfl rfl (dU.row.there.there) (by omega) (by rw[Int.toNat_natCast];exact hx) rfl (fun S_ K8=> ?_)))))))
  refine OT.load rfl rfl (K8.cy hT rfl) rfl (.alloc Tryz.zeroValue113 rfl rfl (fun nw=> ?_))
  refine OT.ag hT rfl rfl rfl rfl pl rfl rfl rfl (.inl (Nat.le_refl _)) ?_
  refine OT.nil (.seq (.seq (.region (.load rfl rfl (Ld.af hT rfl hz rfl) rfl ?_))))
  refine OT.U hT 1 rfl (.call Tryz.call61 rfl rfl rfl rfl (Ev) ?_)
  rintro BG we ⟨rfl,rfl⟩
  refine OT.alloc Tryz.zeroValue36 rfl rfl (fun MP=> ?_)
  refine OT.ag hT rfl rfl rfl rfl pl rfl rfl rfl (.inl (Nat.le_refl _)) ?_
  refine OT.nil (.seq (.seq (.region (.U hT 1 rfl (.load rfl rfl (Ld.one hT rfl hz rfl) rfl ?_)))))
  refine OT.U hT 1 rfl (.nil (.seq (.cond rfl (fun kn=> ?_) (fun kn=> ?_))))
  .
   have kn:¬(iw x t).kind=0:=by simpa using kn
   have hp:dn t x=some (x.key,iw x t):=by unfold dn;rw[if_neg kn]
   refine TT.region (.U hT 2 rfl (.load rfl rfl (Ld.one hT rfl hz rfl) rfl ?_))
   refine OT.load rfl rfl (Ld.af hT rfl hz rfl) rfl ?_
   refine OT.build (cs:=bL (x.key,iw x t)) hT rfl Tryz.zeroValue60 rfl rfl rfl rfl ?_
   refine OT.buildSlice (enc:=bL) (xs:=[(x.key,iw x t)]) (ij:=[.tmp 42]) sF rfl rfl rfl rfl rfl (by simp[Value.cells];rfl) (fun _ _=>rfl) rfl (by decide) rfl (fun Gg MJ DZ=> ?_)
   refine OT.append hT sF rfl rfl rfl rfl pl oD (DZ.row) rfl (by simp only[List.length_singleton];omega) rfl (fun vE QI NZ=> ?_)
   refine OT.U hT 1 rfl (.nil (.blk (.seq (.region (.U hT 2 rfl (.nil (.loop (i+1,vE,QI) ?_ ?_ (aa.cons rfl (aa.cons rfl (aa.cons rfl (aa.cons rfl (aa.aD rfl (by(try dsimp only);exact(int_eq (by rw[wrap_i64 (by omega) (by omega)];omega))) (aa.nil _)))))) sl)))))))
   . dsimp only
     exact⟨by omega,by rw[Oe,hp];exact NZ⟩
   . dsimp only
     omega
  .
   have kn:(iw x t).kind=0:=by simpa using kn
   have hp:dn t x=none:=by unfold dn;rw[if_pos kn]
   refine TT.skip (.blk (.seq (.region (.U hT 2 rfl (.nil (.loop (i+1,w,K) ?_ ?_ (aa.cons rfl (aa.cons rfl (aa.cons rfl (aa.cons rfl (aa.aD rfl (by(try dsimp only);exact(int_eq (by rw[wrap_i64 (by omega) (by omega)];omega))) (aa.nil _)))))) sl))))))
   . dsimp only
     exact⟨by omega,by rw[Oe,hp,Option.toList_none,List.append_nil];exact oD⟩
   . dsimp only
     omega
 .
  have sU:=of_decide_eq_false sU
  obtain rfl:i=l.length:=by omega
  rw[List.take_of_length_le (Nat.le_refl _),<-Sd]at oD
  refine TT.exit (.seq (.loop (.here (.seq (.seq (.region (.U hT 3 rfl (.nil (.seq (.ret (.of (rs:=[.tmp 8,.tmp 9]) [_,_] (H1::K::r) rfl (.tmp rfl (.tmp rfl .nil)) sl ?_)))))))))))
  try dsimp only[one]
  exact⟨H1,K,w,rfl,rfl,oD,oE⟩
set_option maxHeartbeats 2000000 in
set_option maxRecDepth 100000 in
theorem Fz{P:Value}{I:Chunk->Prop}{Qb:ah}(hP:cM Tryz.prog 5 P I (fun _ _=>False) (aI Qb))(hQ:cC Qb){b:Nat}{g:az}{H:Chunk}{r:List Chunk}(hH:ej 110 b P I Qb g H){t:Int}{k:ByteArray}{v:Vl}(HL:v.f<2^64):ax Tryz.prog 16 [.pointer (some ⟨b,0,none⟩),.int .i64 t,.string k,.agg ⟨bA v⟩] (H::r) (fun v' hs'=>∃H' g' e,hs'=H'::r/\v'= .int .i64 e/\ej 110 b P I Qb g' H'/\fE t k v g g' e):=by
 refine ax.enter 77 Tryz.func16 rfl Tryz.ntmps16 rfl ?_
 have hgd:=hH.good
 refine TT.seq (.region (.box rfl rfl rfl (fun ni=> ?_)))
 refine OT.U hT 1 rfl (.nil (.seq (.seq (.seq (.region (.U hT 1 rfl (.call Tryz.call50 rfl rfl rfl rfl (D5) ?_)))))))
 rintro yI DR ⟨rfl,rfl⟩
 refine OT.U hT 2 rfl (.split 15 rfl (fun PM=> ?_) (fun PM=> ?_))
 .
  have h1:iY t=false:=by simpa using PM
  refine OT.U hT 9 rfl (.nil (.seq (.cond_true rfl (.seq (.region (.U hT 1 rfl (.nil (.seq (.ret (.of (rs:=[.tmp 8]) [_] (H::r) rfl (.tmp rfl .nil) sl ?_))))))))))
  try dsimp only[one]
  exact⟨H,g,1,rfl,rfl,hH,.inl ⟨by first|exact .inl h1|exact .inr (.inl h2)|exact .inr (.inr h3),rfl,rfl⟩⟩
 .
  have h1:iY t=true:=by simpa using PM
  refine OT.U hT 1 rfl (.call Tryz.call51 rfl rfl rfl rfl (zj) ?_)
  rintro BH AJ ⟨rfl,rfl⟩
  refine OT.U hT 3 rfl (.split 20 rfl (fun Db=> ?_) (fun Db=> ?_))
  .
   have h2:bp k=false:=by simpa using Db
   refine OT.U hT 4 rfl (.nil (.seq (.cond_true rfl (.seq (.region (.U hT 1 rfl (.nil (.seq (.ret (.of (rs:=[.tmp 8]) [_] (H::r) rfl (.tmp rfl .nil) sl ?_))))))))))
   try dsimp only[one]
   exact⟨H,g,1,rfl,rfl,hH,.inl ⟨by first|exact .inl h1|exact .inr (.inl h2)|exact .inr (.inr h3),rfl,rfl⟩⟩
  .
   have h2:bp k=true:=by simpa using Db
   refine OT.load rfl rfl (Ld.af hT rfl hz rfl) rfl ?_
   refine OT.call Tryz.call52 rfl rfl rfl rfl (oL) ?_
   rintro yJ qQ ⟨rfl,rfl⟩
   refine OT.U hT 2 rfl (.nil (.seq (.cond rfl (fun mG=> ?_) (fun mG=> ?_))))
   .
    have h3:bq v=false:=by simpa using mG
    refine TT.seq (.region (.U hT 1 rfl (.nil (.seq (.ret (.of (rs:=[.tmp 8]) [_] (H::r) rfl (.tmp rfl .nil) sl ?_))))))
    try dsimp only[one]
    exact⟨H,g,1,rfl,rfl,hH,.inl ⟨by first|exact .inl h1|exact .inr (.inl h2)|exact .inr (.inr h3),rfl,rfl⟩⟩
   .
    have h3:bq v=true:=by simpa using mG
    have hok:=And.intro h1 (And.intro h2 h3)
    refine TT.skip (.seq (.seq (.region (.U hT 1 rfl (.bU Tryz.underlying24 rfl rfl rfl rfl (.U hT 1 rfl (.call Tryz.call53 rfl rfl rfl rfl (ax.pull pl (Eu hP hQ hH (k:=k))) ?_)))))))
    rintro qJ pH ⟨H1,rfl,rfl,oE⟩
    have L_:fV g.2 t k↔∃c,cq g.2 k=some c/\c.aV≠0/\c.aV≠t:=Iff.rfl
    have hkp:dX g.2 k v↔v.kind≠0\/((cq g.2 k).getD noCell).val.kind≠0:=Iff.rfl
    have yy:(vR g.2 t k v)=⟨k,((cq g.2 k).getD noCell).val,t,v⟩:=rfl
    have hno:cq g.2 k=none->ia g.2 k=g.2:=fun h=>tD fun c hc e=>by
     have:=(eC hH.small.2.2.1).1 hc
     rw[e,h]at this;cases this
    generalize cq g.2 k=o at L_ hkp yy hno⊢
    rcases o with _|z
    .
     have hnb:¬fV g.2 t k:=fun h=>by obtain⟨c,hc,_⟩:=L_.1 h;cases hc
     refine OT.U hT 4 rfl (.alloc Tryz.zeroValue113 rfl rfl (fun mH=> ?_))
     refine OT.ag hT rfl rfl rfl rfl pl rfl rfl rfl (.inl (Nat.le_refl _)) ?_
     refine OT.U hT 2 rfl (.nil (.seq (.seq (.block (.seq (.region (.U hT 3 rfl (.nil (.seq (.cond_false rfl (.seq (.region (.U hT 2 rfl (.U hT 11 rfl (.nil (.seq (.cond_false rfl (.seq (.region (.U hT 1 rfl (.load rfl rfl (Ld.one hT rfl hz rfl) rfl ?_)))))))))))))))))))))
     refine OT.U hT 2 rfl (.split 54 rfl (fun k8=> ?_) (fun k8=> ?_))
     .
      have k8:v.kind≠0:=by simpa using k8
      have hk:dX g.2 k v:=hkp.2 (.inl k8)
      refine OT.U hT 6 rfl (.nil (.seq (.cond_true rfl (.seq (.region (.U hT 2 rfl (.store hT rfl rfl rfl rfl pl rfl (Nat.le_of_ble_eq_true rfl) rfl (.inl (Nat.le_refl _)) rfl ?_)))))))
      refine OT.nil (.seq (.seq (.region (.U hT 1 rfl (.load rfl rfl (Ld.af (cs:=aj ⟨k,aW,0,aW⟩) hT rfl hz rfl) rfl ?_)))))
      refine OT.U hT 1 rfl (.load rfl rfl (Ld.af hT rfl hz rfl) rfl ?_)
      refine OT.call Tryz.call55 rfl rfl rfl rfl (je (x:=⟨k,aW,0,aW⟩)) ?_
      rintro Dx wC ⟨rfl,rfl⟩
      refine OT.call Tryz.call54 rfl rfl rfl rfl (ax.pull pl (oN hP hQ oE (x:=⟨k,aW,t,v⟩) (by have h:=oK (t:=t) (k:=k) hgd HL;rw[yy]at h;exact h))) ?_
      rintro Dy wD ⟨H2,g2,e2,rfl,rfl,Di,hp⟩
      rw[show(⟨k,aW,t,v⟩:Cell)=(vR g.2 t k v)from yy.symm]at hp
      have hq:=lC (jA hgd hok) hp
      refine OT.U hT 1 rfl (.nil (.seq (.ret (.of (rs:=[.tmp 8]) [_] (H2::r) rfl (.tmp rfl .nil) sl ?_))))
      try dsimp only[one]
      refine⟨H2,g2,e2,rfl,rfl,Di,?_⟩
      rcases hq with⟨rfl,h⟩|⟨rfl,rfl,_,h⟩
      . exact .inr (.inr (.inl ⟨hok,hnb,rfl,by rw[if_pos hk];exact h⟩))
      . exact .inr (.inr (.inr ⟨hok,hnb,rfl,rfl,h,hk⟩))
     .
      have k8:v.kind=0:=by simpa using k8
      refine OT.U hT 2 rfl (.load rfl rfl (Ld.one hT rfl hz rfl) rfl ?_)
      refine OT.U hT 3 rfl (.nil (.seq (.cond rfl (fun gr=> ?_) (fun gr=> ?_))))
      .
       have hk:dX g.2 k v:=hkp.2 (.inr (by simpa using gr))
       refine TT.seq (.region (.U hT 2 rfl (.store hT rfl rfl rfl rfl pl rfl (Nat.le_of_ble_eq_true rfl) rfl (.inl (Nat.le_refl _)) rfl ?_)))
       refine OT.nil (.seq (.seq (.region (.U hT 1 rfl (.load rfl rfl (Ld.af (cs:=aj ⟨k,aW,0,aW⟩) hT rfl hz rfl) rfl ?_)))))
       refine OT.U hT 1 rfl (.load rfl rfl (Ld.af hT rfl hz rfl) rfl ?_)
       refine OT.call Tryz.call55 rfl rfl rfl rfl (je (x:=⟨k,aW,0,aW⟩)) ?_
       rintro Dx wC ⟨rfl,rfl⟩
       refine OT.call Tryz.call54 rfl rfl rfl rfl (ax.pull pl (oN hP hQ oE (x:=⟨k,aW,t,v⟩) (by have h:=oK (t:=t) (k:=k) hgd HL;rw[yy]at h;exact h))) ?_
       rintro Dy wD ⟨H2,g2,e2,rfl,rfl,Di,hp⟩
       rw[show(⟨k,aW,t,v⟩:Cell)=(vR g.2 t k v)from yy.symm]at hp
       have hq:=lC (jA hgd hok) hp
       refine OT.U hT 1 rfl (.nil (.seq (.ret (.of (rs:=[.tmp 8]) [_] (H2::r) rfl (.tmp rfl .nil) sl ?_))))
       try dsimp only[one]
       refine⟨H2,g2,e2,rfl,rfl,Di,?_⟩
       rcases hq with⟨rfl,h⟩|⟨rfl,rfl,_,h⟩
       . exact .inr (.inr (.inl ⟨hok,hnb,rfl,by rw[if_pos hk];exact h⟩))
       . exact .inr (.inr (.inr ⟨hok,hnb,rfl,rfl,h,hk⟩))
      .
       have hnk:¬dX g.2 k v:=fun h=>(hkp.1 h).elim (fun h=>h k8) (fun h=>h (by simpa using gr))
       refine TT.seq (.region (.U hT 2 rfl (.nil (.seq (.cond_false rfl (.skip (.blk (.seq (.seq (.region (.U hT 2 rfl (.nil (.seq (.ret (.of (rs:=[.tmp 8]) [_] (H1::r) rfl (.tmp rfl .nil) sl ?_)))))))))))))))
       try dsimp only[one]
       exact⟨H1,g,0,rfl,rfl,oE,.inr (.inr (.inl ⟨hok,hnb,rfl,by rw[if_neg hnk];exact(hno rfl).symm⟩))⟩
    .
     refine OT.U hT 4 rfl (.alloc Tryz.zeroValue113 rfl rfl (fun mH=> ?_))
     refine OT.ag hT rfl rfl rfl rfl pl rfl rfl rfl (.inl (Nat.le_refl _)) ?_
     refine OT.U hT 2 rfl (.nil (.seq (.seq (.block (.seq (.region (.U hT 3 rfl (.nil (.seq (.cond_false rfl (.seq (.region (.U hT 2 rfl (.U hT 1 rfl (.load rfl rfl (Ld.one hT rfl hz rfl) rfl ?_)))))))))))))))
     refine OT.U hT 3 rfl (.split 44 rfl (fun I_=> ?_) (fun I_=> ?_))
     .
      have I_:z.aV≠0:=by simpa using I_
      refine OT.U hT 1 rfl (.load rfl rfl (Ld.one hT rfl hz rfl) rfl ?_)
      refine OT.U hT 4 rfl (.nil (.seq (.cond rfl (fun kn=> ?_) (fun kn=> ?_))))
      .
       have kn:z.aV≠t:=by simpa using kn
       refine TT.seq (.region (.U hT 1 rfl (.nil (.seq (.ret (.of (rs:=[.tmp 8]) [_] (H1::r) rfl (.tmp rfl .nil) sl ?_))))))
       try dsimp only[one]
       exact⟨H1,g,9,rfl,rfl,oE,.inr (.inl ⟨hok,L_.2 ⟨z,rfl,I_,kn⟩,rfl,rfl⟩)⟩
      .
       have kn:z.aV=t:=by simpa using kn
       have hnb:¬fV g.2 t k:=fun h=>by obtain⟨c,hc,_,h2⟩:=L_.1 h;injection hc with hc;subst hc;exact h2 kn
       refine TT.seq (.region (.U hT 1 rfl (.load rfl rfl (Ld.one hT rfl hz rfl) rfl ?_)))
       refine OT.U hT 2 rfl (.split 54 rfl (fun k8=> ?_) (fun k8=> ?_))
       .
        have k8:v.kind≠0:=by simpa using k8
        have hk:dX g.2 k v:=hkp.2 (.inl k8)
        refine OT.U hT 6 rfl (.nil (.seq (.cond_true rfl (.seq (.region (.U hT 2 rfl (.store hT rfl rfl rfl rfl pl rfl (Nat.le_of_ble_eq_true rfl) rfl (.inl (Nat.le_refl _)) rfl ?_)))))))
        refine OT.nil (.seq (.seq (.region (.U hT 1 rfl (.load rfl rfl (Ld.af (cs:=aj ⟨k,z.val,z.aV,z.new⟩) hT rfl hz rfl) rfl ?_)))))
        refine OT.U hT 1 rfl (.load rfl rfl (Ld.af hT rfl hz rfl) rfl ?_)
        refine OT.call Tryz.call55 rfl rfl rfl rfl (je (x:=⟨k,z.val,z.aV,z.new⟩)) ?_
        rintro Dx wC ⟨rfl,rfl⟩
        refine OT.call Tryz.call54 rfl rfl rfl rfl (ax.pull pl (oN hP hQ oE (x:=⟨k,z.val,t,v⟩) (by have h:=oK (t:=t) (k:=k) hgd HL;rw[yy]at h;exact h))) ?_
        rintro Dy wD ⟨H2,g2,e2,rfl,rfl,Di,hp⟩
        rw[show(⟨k,z.val,t,v⟩:Cell)=(vR g.2 t k v)from yy.symm]at hp
        have hq:=lC (jA hgd hok) hp
        refine OT.U hT 1 rfl (.nil (.seq (.ret (.of (rs:=[.tmp 8]) [_] (H2::r) rfl (.tmp rfl .nil) sl ?_))))
        try dsimp only[one]
        refine⟨H2,g2,e2,rfl,rfl,Di,?_⟩
        rcases hq with⟨rfl,h⟩|⟨rfl,rfl,_,h⟩
        . exact .inr (.inr (.inl ⟨hok,hnb,rfl,by rw[if_pos hk];exact h⟩))
        . exact .inr (.inr (.inr ⟨hok,hnb,rfl,rfl,h,hk⟩))
       .
        have k8:v.kind=0:=by simpa using k8
        refine OT.U hT 2 rfl (.load rfl rfl (Ld.one hT rfl hz rfl) rfl ?_)
        refine OT.U hT 3 rfl (.nil (.seq (.cond rfl (fun gr=> ?_) (fun gr=> ?_))))
        .
         have hk:dX g.2 k v:=hkp.2 (.inr (by simpa using gr))
         refine TT.seq (.region (.U hT 2 rfl (.store hT rfl rfl rfl rfl pl rfl (Nat.le_of_ble_eq_true rfl) rfl (.inl (Nat.le_refl _)) rfl ?_)))
         refine OT.nil (.seq (.seq (.region (.U hT 1 rfl (.load rfl rfl (Ld.af (cs:=aj ⟨k,z.val,z.aV,z.new⟩) hT rfl hz rfl) rfl ?_)))))
         refine OT.U hT 1 rfl (.load rfl rfl (Ld.af hT rfl hz rfl) rfl ?_)
         refine OT.call Tryz.call55 rfl rfl rfl rfl (je (x:=⟨k,z.val,z.aV,z.new⟩)) ?_
         rintro Dx wC ⟨rfl,rfl⟩
         refine OT.call Tryz.call54 rfl rfl rfl rfl (ax.pull pl (oN hP hQ oE (x:=⟨k,z.val,t,v⟩) (by have h:=oK (t:=t) (k:=k) hgd HL;rw[yy]at h;exact h))) ?_
         rintro Dy wD ⟨H2,g2,e2,rfl,rfl,Di,hp⟩
         rw[show(⟨k,z.val,t,v⟩:Cell)=(vR g.2 t k v)from yy.symm]at hp
         have hq:=lC (jA hgd hok) hp
         refine OT.U hT 1 rfl (.nil (.seq (.ret (.of (rs:=[.tmp 8]) [_] (H2::r) rfl (.tmp rfl .nil) sl ?_))))
         try dsimp only[one]
         refine⟨H2,g2,e2,rfl,rfl,Di,?_⟩
         rcases hq with⟨rfl,h⟩|⟨rfl,rfl,_,h⟩
         . exact .inr (.inr (.inl ⟨hok,hnb,rfl,by rw[if_pos hk];exact h⟩))
         . exact .inr (.inr (.inr ⟨hok,hnb,rfl,rfl,h,hk⟩))
        .
         have hnk:¬dX g.2 k v:=fun h=>(hkp.1 h).elim (fun h=>h k8) (fun h=>h (by simpa using gr))
         refine TT.seq (.region (.U hT 2 rfl (.nil (.seq (.cond_true rfl (.region (.U hT 2 rfl (.call Tryz.call56 rfl rfl rfl rfl (ax.pull pl (Et hP hQ oE (k:=k))) ?_))))))))
         rintro Dz N0 ⟨H3,g3,rfl,rfl,PN,F4,_⟩
         refine OT.U hT 4 rfl (.nil (.blk (.seq (.seq (.region (.U hT 2 rfl (.nil (.seq (.ret (.of (rs:=[.tmp 8]) [_] (H3::r) rfl (.tmp rfl .nil) sl ?_))))))))))
         try dsimp only[one]
         exact⟨H3,g3,0,rfl,rfl,PN,.inr (.inr (.inl ⟨hok,hnb,rfl,by rw[if_neg hnk];exact F4⟩))⟩
     .
      have I_:z.aV=0:=by simpa using I_
      have hnb:¬fV g.2 t k:=fun h=>by obtain⟨c,hc,h1,_⟩:=L_.1 h;injection hc with hc;subst hc;exact h1 I_
      refine OT.U hT 6 rfl (.nil (.seq (.cond_false rfl (.seq (.region (.U hT 1 rfl (.load rfl rfl (Ld.one hT rfl hz rfl) rfl ?_)))))))
      refine OT.U hT 2 rfl (.split 54 rfl (fun k8=> ?_) (fun k8=> ?_))
      .
       have k8:v.kind≠0:=by simpa using k8
       have hk:dX g.2 k v:=hkp.2 (.inl k8)
       refine OT.U hT 6 rfl (.nil (.seq (.cond_true rfl (.seq (.region (.U hT 2 rfl (.store hT rfl rfl rfl rfl pl rfl (Nat.le_of_ble_eq_true rfl) rfl (.inl (Nat.le_refl _)) rfl ?_)))))))
       refine OT.nil (.seq (.seq (.region (.U hT 1 rfl (.load rfl rfl (Ld.af (cs:=aj ⟨k,z.val,z.aV,z.new⟩) hT rfl hz rfl) rfl ?_)))))
       refine OT.U hT 1 rfl (.load rfl rfl (Ld.af hT rfl hz rfl) rfl ?_)
       refine OT.call Tryz.call55 rfl rfl rfl rfl (je (x:=⟨k,z.val,z.aV,z.new⟩)) ?_
       rintro Dx wC ⟨rfl,rfl⟩
       refine OT.call Tryz.call54 rfl rfl rfl rfl (ax.pull pl (oN hP hQ oE (x:=⟨k,z.val,t,v⟩) (by have h:=oK (t:=t) (k:=k) hgd HL;rw[yy]at h;exact h))) ?_
       rintro Dy wD ⟨H2,g2,e2,rfl,rfl,Di,hp⟩
       rw[show(⟨k,z.val,t,v⟩:Cell)=(vR g.2 t k v)from yy.symm]at hp
       have hq:=lC (jA hgd hok) hp
       refine OT.U hT 1 rfl (.nil (.seq (.ret (.of (rs:=[.tmp 8]) [_] (H2::r) rfl (.tmp rfl .nil) sl ?_))))
       try dsimp only[one]
       refine⟨H2,g2,e2,rfl,rfl,Di,?_⟩
       rcases hq with⟨rfl,h⟩|⟨rfl,rfl,_,h⟩
       . exact .inr (.inr (.inl ⟨hok,hnb,rfl,by rw[if_pos hk];exact h⟩))
       . exact .inr (.inr (.inr ⟨hok,hnb,rfl,rfl,h,hk⟩))
      .
       have k8:v.kind=0:=by simpa using k8
       refine OT.U hT 2 rfl (.load rfl rfl (Ld.one hT rfl hz rfl) rfl ?_)
       refine OT.U hT 3 rfl (.nil (.seq (.cond rfl (fun gr=> ?_) (fun gr=> ?_))))
       .
        have hk:dX g.2 k v:=hkp.2 (.inr (by simpa using gr))
        refine TT.seq (.region (.U hT 2 rfl (.store hT rfl rfl rfl rfl pl rfl (Nat.le_of_ble_eq_true rfl) rfl (.inl (Nat.le_refl _)) rfl ?_)))
        refine OT.nil (.seq (.seq (.region (.U hT 1 rfl (.load rfl rfl (Ld.af (cs:=aj ⟨k,z.val,z.aV,z.new⟩) hT rfl hz rfl) rfl ?_)))))
        refine OT.U hT 1 rfl (.load rfl rfl (Ld.af hT rfl hz rfl) rfl ?_)
        refine OT.call Tryz.call55 rfl rfl rfl rfl (je (x:=⟨k,z.val,z.aV,z.new⟩)) ?_
        rintro Dx wC ⟨rfl,rfl⟩
        refine OT.call Tryz.call54 rfl rfl rfl rfl (ax.pull pl (oN hP hQ oE (x:=⟨k,z.val,t,v⟩) (by have h:=oK (t:=t) (k:=k) hgd HL;rw[yy]at h;exact h))) ?_
        rintro Dy wD ⟨H2,g2,e2,rfl,rfl,Di,hp⟩
        rw[show(⟨k,z.val,t,v⟩:Cell)=(vR g.2 t k v)from yy.symm]at hp
        have hq:=lC (jA hgd hok) hp
        refine OT.U hT 1 rfl (.nil (.seq (.ret (.of (rs:=[.tmp 8]) [_] (H2::r) rfl (.tmp rfl .nil) sl ?_))))
        try dsimp only[one]
        refine⟨H2,g2,e2,rfl,rfl,Di,?_⟩
        rcases hq with⟨rfl,h⟩|⟨rfl,rfl,_,h⟩
        . exact .inr (.inr (.inl ⟨hok,hnb,rfl,by rw[if_pos hk];exact h⟩))
        . exact .inr (.inr (.inr ⟨hok,hnb,rfl,rfl,h,hk⟩))
       .
        have hnk:¬dX g.2 k v:=fun h=>(hkp.1 h).elim (fun h=>h k8) (fun h=>h (by simpa using gr))
        refine TT.seq (.region (.U hT 2 rfl (.nil (.seq (.cond_true rfl (.region (.U hT 2 rfl (.call Tryz.call56 rfl rfl rfl rfl (ax.pull pl (Et hP hQ oE (k:=k))) ?_))))))))
        rintro Dz N0 ⟨H3,g3,rfl,rfl,PN,F4,_⟩
        refine OT.U hT 4 rfl (.nil (.blk (.seq (.seq (.region (.U hT 2 rfl (.nil (.seq (.ret (.of (rs:=[.tmp 8]) [_] (H3::r) rfl (.tmp rfl .nil) sl ?_))))))))))
        try dsimp only[one]
        exact⟨H3,g3,0,rfl,rfl,PN,.inr (.inr (.inl ⟨hok,hnb,rfl,by rw[if_neg hnk];exact F4⟩))⟩
end Go.Proofs.YtihpkgmfkbkffaaGreat.Sx
end
section
namespace Go.Proofs.YtihpkgmfkbkffaaGreat.Sx
open Go Go.Sx Go.Pl
variable[aq]
set_option maxHeartbeats 8000000 in
set_option maxRecDepth 100000 in
theorem zG{P:Value}{I:Chunk->Prop}{Qb:ah}(hP:cM Tryz.prog 5 P I (fun _ _=>False) (aI Qb))(hQ:cC Qb){b:Nat}{g:az}{H:Chunk}{r:List Chunk}(hH:ej 110 b P I Qb g H){Z:Chunk}{fw fh:Nat}{AP:List Value}{p:Int->Bool}{how:Cell->Cell×Bool}(hok:AD how)(hkk:gU g.2 (j0 p how))(Va:∀args w,(callFunc fw args).run Tryz.prog w= .ok (.enter fw args) w)(sE:∀args w,(callFunc fh args).run Tryz.prog w= .ok (.enter fh args) w)(hw:∀(x:Int) (r':List Chunk),ax Tryz.prog fw (.int .i64 x::AP) (Z::r') fun v' hs'=>v'= .bool (p x)/\hs'=Z::r')(hh:∀(x:Cell) (hs:List Chunk),ax Tryz.prog fh [.agg ⟨aj x⟩] hs fun v' hs'=>v'= .tuple ⟨[.agg ⟨aj (how x).1⟩,.bool (how x).2]⟩/\hs=hs'):ax Tryz.prog 57 [.pointer (some ⟨b,0,none⟩),.func (.func fw) ⟨[]⟩ ⟨AP⟩,.func (.func fh) #[] #[]] (H::Z::r) (fun v' hs'=>∃H' g',hs'=H'::Z::r/\v'= .tuple ⟨[.int .i64 (pV g.2 p:Nat),.int .i64 0]⟩/\ej 110 b P I Qb g' H'/\g'.2=ue g.2 p how):=by
 refine ax.enter 88 Tryz.func57 rfl Tryz.ntmps57 rfl ?_
 obtain⟨_,Ok,Se,_,_⟩:=hH.small
 have hgd:=hH.good
 refine TT.seq (.region (.U hT 2 rfl (.nil (.seq (.seq (.region (.U hT 1 rfl (.bU Tryz.underlying24 rfl rfl rfl rfl (.call Tryz.call60 rfl rfl rfl rfl (Bv hP hQ hH) ?_)))))))))
 rintro yJ qQ ⟨H1,K1,v1,rfl,rfl,dU,oE⟩
 rw[Eg]at dU
 obtain⟨a1,c1,PL⟩:=(dU.row (hs:=[])).len
 subst PL
 obtain⟨Qs,Dj,Vb⟩:=oE
 have F3:=Dj.pT hQ
 refine OT.U hT 5 rfl (.nil (.seq (.seq (.seq (.region (.U hT 2 rfl (.nil (.seq (.cond_false rfl (.skip (.seq (.seq (.region (.U hT 1 rfl (.bU Tryz.underlying24 rfl rfl rfl rfl (.call Tryz.call15 rfl rfl rfl rfl (ax.pull pl (Hg hP hQ Dj Vb)) ?_))))))))))))))))
 rintro yF v8 ⟨t,Vc,rfl,rfl,LO⟩
 refine OT.U hT 2 rfl (.nil (.seq (.seq (.seq (.region (.U hT 3 rfl (.nil (.seq (.block (.loop (ι:=Nat×Chunk×az) (fun j=>(j.1)<=g.2.length/\Lw b t P I Qb Qs (j.2.2) (j.2.1)/\(j.2.2).2=mz g.2 (j0 p how) (j.1)) (fun j=>g.2.length-(j.1)) (fun j=>[(0,.pointer (some ⟨b,0,none⟩)),(1,.func (.func fw) ⟨[]⟩ ⟨AP⟩),(2,.func (.func fh) #[] #[]),(10,.pointer (some ⟨t,0,none⟩)),(9,.int .i64 0),(11,.int .i64 (((g.2.take (j.1)).filter (fun c=>decide (c.aV≠0/\p c.aV=true))).length:Nat)),(31,.slice a1 g.2.length c1),(32,.int .i64 (g.2.length:Nat)),(33,.int .i64 ((j.1):Nat))]) (fun j=>(j.2.1)::K1::Z::r) (0,Vc,g) ?_ (aa.cons rfl (aa.cons rfl (aa.cons rfl (aa.cons rfl (aa.cons rfl (aa.cons rfl (aa.cons rfl (aa.cons rfl (aa.cons rfl (aa.nil _)))))))))) sl ?_))))))))))
 . dsimp only
   exact⟨Nat.zero_le _,LO,rfl⟩
 rintro⟨i,HT,g2⟩ hI
 dsimp only at hI
 obtain⟨hi,Ma,AW⟩:=hI
 show TT _ _ _ [(0,.pointer (some ⟨b,0,none⟩)),(1,.func (.func fw) ⟨[]⟩ ⟨AP⟩),(2,.func (.func fh) #[] #[]),(10,.pointer (some ⟨t,0,none⟩)),(9,.int .i64 0),(11,.int .i64 (((g.2.take i).filter (fun c=>decide (c.aV≠0/\p c.aV=true))).length:Nat)),(31,.slice a1 g.2.length c1),(32,.int .i64 (g.2.length:Nat)),(33,.int .i64 (i:Nat))] (HT::K1::Z::r)
 refine TT.seq (.region (.U hT 1 rfl (.nil (.seq (.seq (.cond rfl (fun mj=> ?_) (fun mj=> ?_)))))))
 .
  have mj:=of_decide_eq_true mj
  obtain⟨x,hx⟩:=nth (l:=g.2) (i:=i) (by omega)
  obtain⟨L6,fR⟩:=hgd x (List.mem_of_getElem? hx)
  have gF:=z8 g.2 (fun c=>decide (c.aV≠0/\p c.aV=true)) i
  refine TT.skip (.seq (.seq (.block (.seq (.region (.index hT rfl rfl rfl rfl (dU.row.there) (by omega) (by rw[Int.toNat_natCast];exact hx) rfl (fun wA gR=> ?_)))))))
  refine OT.load rfl rfl (gR.cy hT rfl) rfl (.alloc Tryz.zeroValue113 rfl rfl (fun Gj=> ?_))
  refine OT.ag hT rfl rfl rfl rfl pl rfl rfl rfl (.inl (Nat.le_refl _)) ?_
  refine OT.nil (.seq (.seq (.seq (.region (.U hT 1 rfl (.load rfl rfl (Ld.one hT rfl hz rfl) rfl ?_))))))
  refine OT.U hT 2 rfl (.split 40 rfl (fun BR=> ?_) (fun BR=> ?_))
  .
   have BR:x.aV=0:=eq_of_beq BR
   have hF:j0 p how x=some x:=by unfold j0;rw[if_neg (fun h=>h.1 BR)]
   have AS:=tJ (p:=(fun c=>decide (c.aV≠0/\p c.aV=true))) hx (decide_eq_false (fun h=>h.1 BR))
   refine OT.U hT 6 rfl (.nil (.seq (.cond_true rfl (.exit (.seq (.here (.seq (.region (.U hT 2 rfl (.nil (.loop (i+1,HT,g2) ?_ ?_ (aa.cons rfl (aa.cons rfl (aa.cons rfl (aa.cons rfl (aa.cons rfl (aa.aD rfl (by(try dsimp only);exact(int_eq (by rw[AS]))) (aa.cons rfl (aa.cons rfl (aa.aD rfl (by(try dsimp only);exact(int_eq (by rw[wrap_i64 (by omega) (by omega)];omega))) (aa.nil _)))))))))) sl)))))))))))
   . dsimp only
     exact⟨by omega,Ma,by rw[xd hx hF];exact AW⟩
   . dsimp only
     omega
  .
   have BR:x.aV≠0:=fun h=>by rw[h]at BR;simp at BR
   refine OT.U hT 2 rfl (.load rfl rfl (Ld.one hT rfl hz rfl) rfl ?_)
   refine OT.Aw Va rfl rfl rfl rfl (ax.weaken sl (hw _ _)) ?_
   rintro vE s0 ⟨rfl,rfl⟩
   refine OT.U hT 2 rfl (.nil (.seq (.cond rfl (fun oC=> ?_) (fun oC=> ?_))))
   .
    have oC:¬p x.aV=true:=by simpa using oC
    have hF:j0 p how x=some x:=by unfold j0;rw[if_neg (fun h=>oC h.2)]
    have AS:=tJ (p:=(fun c=>decide (c.aV≠0/\p c.aV=true))) hx (decide_eq_false (fun h=>oC h.2))
    refine TT.exit (.seq (.here (.seq (.region (.U hT 2 rfl (.nil (.loop (i+1,HT,g2) ?_ ?_ (aa.cons rfl (aa.cons rfl (aa.cons rfl (aa.cons rfl (aa.cons rfl (aa.aD rfl (by(try dsimp only);exact(int_eq (by rw[AS]))) (aa.cons rfl (aa.cons rfl (aa.aD rfl (by(try dsimp only);exact(int_eq (by rw[wrap_i64 (by omega) (by omega)];omega))) (aa.nil _)))))))))) sl)))))))
    . dsimp only
      exact⟨by omega,Ma,by rw[xd hx hF];exact AW⟩
    . dsimp only
      omega
   .
    have oC:p x.aV=true:=by simpa using oC
    have AS:=(Cr (p:=(fun c=>decide (c.aV≠0/\p c.aV=true))) hx (decide_eq_true ⟨BR,oC⟩)).2
    refine TT.skip (.seq (.seq (.seq (.region (.U hT 1 rfl (.load rfl rfl (Ld.af hT rfl hz rfl) rfl ?_))))))
    refine OT.Aw sE rfl rfl rfl rfl (ax.weaken sl (hh _ _)) ?_
    rintro BK AM ⟨rfl,rfl⟩
    refine OT.U hT 3 rfl (.alloc Tryz.zeroValue113 rfl rfl (fun nw=> ?_))
    refine OT.ag hT rfl rfl rfl rfl pl rfl rfl rfl (.inl (Nat.le_refl _)) ?_
    refine OT.U hT 1 rfl (.nil (.seq (.seq (.region (.U hT 1 rfl (.nil (.seq (.cond rfl (fun y5=> ?_) (fun y5=> ?_)))))))))
    .
     have y5:(how x).2=true:=y5
     obtain⟨qC,hk2,C0,BN⟩:=hok x L6 BR fR y5
     have hF:j0 p how x=some (how x).1:=by unfold j0;rw[if_pos ⟨BR,oC⟩,if_pos y5]
     refine TT.region (.U hT 1 rfl (.load rfl rfl (Ld.af hT rfl hz rfl) rfl ?_))
     refine OT.call Tryz.call54 rfl rfl rfl rfl (ax.pull pl (Fx hP hQ F3 Ma hk2 C0 (c:=x) (by rw[AW];exact List.mem_of_getElem? (Bj hx)) qC.symm BN)) ?_
     rintro MO NP ⟨PO,g3,rfl,rfl,JT,F4⟩
     rw[AW,GO Se hkk hx hF]at F4
     refine OT.U hT 1 rfl (.nil (.seq (.seq (.seq (.region (.U hT 2 rfl (.nil (.seq (.cond_false rfl (.skip (.seq (.region (.U hT 3 rfl (.nil (.blk (.seq (.region (.U hT 2 rfl (.nil (.loop (i+1,PO,g3) ?_ ?_ (aa.cons rfl (aa.cons rfl (aa.cons rfl (aa.cons rfl (aa.cons rfl (aa.aD rfl (by(try dsimp only);exact(int_eq (by rw[AS,wrap_i64 (by omega) (by omega)];omega))) (aa.cons rfl (aa.cons rfl (aa.aD rfl (by(try dsimp only);exact(int_eq (by rw[wrap_i64 (by omega) (by omega)];omega))) (aa.nil _)))))))))) sl))))))))))))))))))))
     . dsimp only
       exact⟨by omega,JT,F4⟩
     . dsimp only
       omega
    .
     have y5:(how x).2=false:=y5
     have hF:j0 p how x=none:=by unfold j0;rw[if_pos ⟨BR,oC⟩,if_neg (by rw[y5];simp)]
     refine TT.region (.U hT 2 rfl (.load rfl rfl (Ld.one hT rfl hz rfl) rfl ?_))
     refine OT.call Tryz.call56 rfl rfl rfl rfl (ax.pull pl (KZ hP hQ F3 Ma (k:=x.key))) ?_
     rintro QD NV ⟨PO,g3,bb,rfl,rfl,JT,F4⟩
     rw[AW,GP Se hkk hx hF]at F4
     refine OT.U hT 4 rfl (.nil (.seq (.seq (.seq (.region (.U hT 2 rfl (.nil (.seq (.cond_false rfl (.skip (.seq (.region (.U hT 3 rfl (.nil (.blk (.seq (.region (.U hT 2 rfl (.nil (.loop (i+1,PO,g3) ?_ ?_ (aa.cons rfl (aa.cons rfl (aa.cons rfl (aa.cons rfl (aa.cons rfl (aa.aD rfl (by(try dsimp only);exact(int_eq (by rw[AS,wrap_i64 (by omega) (by omega)];omega))) (aa.cons rfl (aa.cons rfl (aa.aD rfl (by(try dsimp only);exact(int_eq (by rw[wrap_i64 (by omega) (by omega)];omega))) (aa.nil _)))))))))) sl))))))))))))))))))))
     . dsimp only
       exact⟨by omega,JT,F4⟩
     . dsimp only
       omega
 .
  have mj:=of_decide_eq_false mj
  obtain rfl:i=g.2.length:=by omega
  rw[GQ]at AW
  rw[List.take_of_length_le (Nat.le_refl _)]
  refine TT.exit (.seq (.loop (.here (.seq (.seq (.seq (.region (.U hT 1 rfl ?_))))))))
  obtain⟨Qt,Vd,Ve⟩:=Ma
  refine OT.call Tryz.call47 rfl rfl rfl rfl (ax.pull pl (ya hP hQ F3 Vd)) ?_
  rintro Du AN ⟨ts,HI,Xj,rfl,PC,Sf,Lt,yp,yl⟩
  have QJ:=Sf.nS
  have F2:∀hs,l_ (HI::hs) Du ts:=fun hs=>PC.at (by omega) (fun t ht=>by have:=(yp t.FR (List.mem_map.2 ⟨t,ht,rfl⟩)).2;show t.b.length<=_;have e:t.FR.2=t.b:=rfl;rw[e]at this;omega)
  obtain⟨Sg,Sh,QK⟩:=(F2 []).row.len
  subst QK
  obtain⟨m3,⟨Xk,M3,G3,rfl,_,_,Vf⟩,_⟩:=Sf
  refine OT.perm wY (.U hT 2 rfl (.nil (.seq (.block (.loop (ι:=Nat×Chunk) (fun j=>(j.1)<=ts.length/\aM 110 b P I Qb (lay Qs ((iM ts).take (j.1))) (j.2)) (fun j=>ts.length-(j.1)) (fun j=>[(0,.pointer (some ⟨b,0,none⟩)),(11,.int .i64 (pV g.2 p:Nat)),(71,.slice Sg ts.length Sh),(72,.int .i64 (ts.length:Nat)),(73,.int .i64 ((j.1):Nat))]) (fun j=>HI::(j.2)::Z::r) (0,G3) ?_ (aa.cons rfl (aa.cons rfl (aa.cons rfl (aa.cons rfl (aa.cons rfl (aa.nil _)))))) sl ?_)))))
  . dsimp only
    exact⟨Nat.zero_le _,Vf⟩
  rintro⟨k,G⟩ hI
  dsimp only at hI
  obtain⟨hk,hG⟩:=hI
  show TT _ _ _ [(0,.pointer (some ⟨b,0,none⟩)),(11,.int .i64 (pV g.2 p:Nat)),(71,.slice Sg ts.length Sh),(72,.int .i64 (ts.length:Nat)),(73,.int .i64 (k:Nat))] (HI::G::Z::r)
  refine TT.seq (.region (.U hT 1 rfl (.nil (.seq (.seq (.cond rfl (fun Mb=> ?_) (fun Mb=> ?_)))))))
  .
   have Mb:=of_decide_eq_true Mb
   obtain⟨y,hy⟩:=nth (l:=ts) (i:=k) (by omega)
   have PR:=List.mem_of_getElem? hy
   have Lv:=yp y.FR (List.mem_map.2 ⟨y,PR,rfl⟩)
   refine TT.skip (.seq (.seq (.block (.seq (.region (.index hT rfl rfl rfl rfl (F2 _).row (by omega) (by rw[Int.toNat_natCast];exact hy) rfl (fun Ta K9=> ?_)))))))
   refine OT.load rfl rfl (K9.cy hT rfl) rfl (.alloc Tryz.zeroValue143 rfl rfl (fun Wa=> ?_))
   refine OT.ag hT rfl rfl rfl rfl pl rfl rfl (Bc (F2 []) PR) (.inl (Nat.le_refl _)) ?_
   refine OT.nil (.seq (.seq (.region (.U hT 2 rfl (.load rfl rfl (Ld.one hT rfl hz rfl) rfl ?_)))))
   refine OT.U hT 1 rfl (.load rfl rfl (Ld.slc hT rfl hz rfl) rfl ?_)
   refine OT.call Tryz.call109 rfl rfl rfl rfl (ax.pull pl (mO hP hQ hG (no:=y.no) (bs:=y.b) (((F2 _).each y PR).there) Lv.1 Lv.2)) ?_
   rintro Wb Tb ⟨G4,rfl,rfl,Vg⟩
   refine OT.U hT 1 rfl (.nil (.seq (.seq (.region (.U hT 2 rfl (.nil (.seq (.cond_false rfl (.skip (.blk (.seq (.region (.U hT 2 rfl (.nil (.loop (k+1,G4) ?_ ?_ (aa.cons rfl (aa.cons rfl (aa.cons rfl (aa.cons rfl (aa.aD rfl (by(try dsimp only);exact(int_eq (by rw[wrap_i64 (by omega) (by omega)];omega))) (aa.nil _)))))) sl)))))))))))))))
   . dsimp only
     exact⟨by omega,by rw[wX (A4 hy)];exact Vg⟩
   . dsimp only
     omega
  .
   have Mb:=of_decide_eq_false Mb
   obtain rfl:k=ts.length:=by omega
   rw[List.take_of_length_le (by rw[p5];exact Nat.le_refl _),Lt,QJ]at hG
   refine TT.exit (.seq (.loop (.here (.seq (.seq (.region (.U hT 3 rfl (.nil (.seq (.ret (.of (rs:=[.tmp 6,.tmp 7]) [_,_] (G::Z::r) rfl (.tmp rfl (.tmp rfl .nil)) sl ?_)))))))))))
   try dsimp only[one]
   exact⟨G,g2,rfl,rfl,⟨Qt,hG,Ve⟩,AW⟩
set_option maxHeartbeats 1000000 in
set_option maxRecDepth 100000 in
theorem Ap{x t:Int}{bt:Nat}{r:List Chunk}:ax Tryz.prog 58 [.int .i64 x,.pointer (some ⟨bt,0,none⟩)] ([(bt,blk [.int .i64 t] 2 (0,0))]::r) (fun v' hs'=>v'= .bool (decide (x=t))/\hs'=[(bt,blk [.int .i64 t] 2 (0,0))]::r):=by
 refine ax.enter 7 Tryz.func58 rfl Tryz.ntmps58 rfl ?_
 refine TT.seq (.region (.U hT 1 rfl (.nil (.seq (.seq (.region (.U hT 1 rfl (.load rfl rfl (Ld.one hT rfl hz rfl) rfl ?_))))))))
 refine OT.U hT 2 rfl (.nil (.seq (.ret (.of (rs:=[.tmp 3]) [_] ([(bt,blk [.int .i64 t] 2 (0,0))]::r) rfl (.tmp rfl .nil) sl ?_))))
 try dsimp only[one]
 refine⟨congrArg Value.bool ?_,rfl⟩
 rw[Bool.eq_iff_iff,beq_iff_eq,decide_eq_true_eq]
set_option maxHeartbeats 1000000 in
set_option maxRecDepth 100000 in
theorem ua{P:Value}{I:Chunk->Prop}{Qb:ah}(hP:cM Tryz.prog 5 P I (fun _ _=>False) (aI Qb))(hQ:cC Qb){b:Nat}{g:az}{H:Chunk}{r:List Chunk}(hH:ej 110 b P I Qb g H){t:Int}:ax Tryz.prog 18 [.pointer (some ⟨b,0,none⟩),.int .i64 t] (H::r) (fun v' hs'=>(iY t=false/\v'= .tuple ⟨[.int .i64 0,.int .i64 1]⟩/\∃H',hs'=H'::r/\ej 110 b P I Qb g H')\/(iY t=true/\∃H' g',hs'=H'::r/\v'= .tuple ⟨[.int .i64 (pV g.2 (fun x=>decide (x=t)):Nat),.int .i64 0]⟩/\ej 110 b P I Qb g' H'/\g'.2=ue g.2 (fun x=>decide (x=t)) cR)):=by
 refine ax.enter 14 Tryz.func18 rfl Tryz.ntmps18 rfl ?_
 refine TT.seq (.region (.box rfl rfl rfl (fun jt=> ?_)))
 refine OT.U hT 2 rfl (.nil (.seq (.seq (.seq (.region (.load rfl rfl (Ld.one hT rfl hz rfl) rfl ?_))))))
 refine OT.call Tryz.call50 rfl rfl rfl rfl (D5) ?_
 rintro C9 sG ⟨rfl,rfl⟩
 refine OT.U hT 1 rfl (.nil (.seq (.cond rfl (fun c8=> ?_) (fun c8=> ?_))))
 .
  have c8:iY t=false:=by simpa using c8
  refine TT.seq (.region (.U hT 2 rfl (.nil (.seq (.ret (.of (rs:=[.tmp 4,.tmp 5]) [_,_] (H::r) rfl (.tmp rfl (.tmp rfl .nil)) sl ?_))))))
  try dsimp only[one]
  exact .inl ⟨c8,rfl,H,rfl,hH⟩
 .
  have c8:iY t=true:=by simpa using c8
  refine TT.skip (.seq (.seq (.region (.U hT 2 rfl (.call Tryz.call57 rfl rfl rfl rfl (ax.weaken sl (zG hP hQ hH (Z:=[(jt,blk [.int .i64 t] 2 (0,0))]) (p:=fun x=>decide (x=t)) tL (lW true) Tryz.call58 Tryz.call59 (fun x r'=>Ap) (fun x hs=>CT))) ?_)))))
  rintro oH iV ⟨H1,g1,rfl,rfl,oE,AX⟩
  refine OT.U hT 4 rfl (.nil (.seq (.ret (.of (rs:=[.tmp 4,.tmp 5]) [_,_] (H1::r) rfl (.tmp rfl (.tmp rfl .nil)) sl ?_))))
  try dsimp only[one]
  exact .inr ⟨c8,H1,g1,rfl,rfl,oE,AX⟩
set_option maxHeartbeats 1000000 in
set_option maxRecDepth 100000 in
theorem FA{x t:Int}{bt:Nat}{r:List Chunk}:ax Tryz.prog 65 [.int .i64 x,.pointer (some ⟨bt,0,none⟩)] ([(bt,blk [.int .i64 t] 2 (0,0))]::r) (fun v' hs'=>v'= .bool (decide (x=t))/\hs'=[(bt,blk [.int .i64 t] 2 (0,0))]::r):=by
 refine ax.enter 7 Tryz.func65 rfl Tryz.ntmps65 rfl ?_
 refine TT.seq (.region (.U hT 1 rfl (.nil (.seq (.seq (.region (.U hT 1 rfl (.load rfl rfl (Ld.one hT rfl hz rfl) rfl ?_))))))))
 refine OT.U hT 2 rfl (.nil (.seq (.ret (.of (rs:=[.tmp 3]) [_] ([(bt,blk [.int .i64 t] 2 (0,0))]::r) rfl (.tmp rfl .nil) sl ?_))))
 try dsimp only[one]
 refine⟨congrArg Value.bool ?_,rfl⟩
 rw[Bool.eq_iff_iff,beq_iff_eq,decide_eq_true_eq]
set_option maxHeartbeats 1000000 in
set_option maxRecDepth 100000 in
theorem Hi{P:Value}{I:Chunk->Prop}{Qb:ah}(hP:cM Tryz.prog 5 P I (fun _ _=>False) (aI Qb))(hQ:cC Qb){b:Nat}{g:az}{H:Chunk}{r:List Chunk}(hH:ej 110 b P I Qb g H){t:Int}:ax Tryz.prog 27 [.pointer (some ⟨b,0,none⟩),.int .i64 t] (H::r) (fun v' hs'=>(iY t=false/\v'= .tuple ⟨[.int .i64 0,.int .i64 1]⟩/\∃H',hs'=H'::r/\ej 110 b P I Qb g H')\/(iY t=true/\∃H' g',hs'=H'::r/\v'= .tuple ⟨[.int .i64 (pV g.2 (fun x=>decide (x=t)):Nat),.int .i64 0]⟩/\ej 110 b P I Qb g' H'/\g'.2=ue g.2 (fun x=>decide (x=t)) ez)):=by
 refine ax.enter 14 Tryz.func27 rfl Tryz.ntmps27 rfl ?_
 refine TT.seq (.region (.box rfl rfl rfl (fun jt=> ?_)))
 refine OT.U hT 2 rfl (.nil (.seq (.seq (.seq (.region (.load rfl rfl (Ld.one hT rfl hz rfl) rfl ?_))))))
 refine OT.call Tryz.call50 rfl rfl rfl rfl (D5) ?_
 rintro C9 sG ⟨rfl,rfl⟩
 refine OT.U hT 1 rfl (.nil (.seq (.cond rfl (fun c8=> ?_) (fun c8=> ?_))))
 .
  have c8:iY t=false:=by simpa using c8
  refine TT.seq (.region (.U hT 2 rfl (.nil (.seq (.ret (.of (rs:=[.tmp 4,.tmp 5]) [_,_] (H::r) rfl (.tmp rfl (.tmp rfl .nil)) sl ?_))))))
  try dsimp only[one]
  exact .inl ⟨c8,rfl,H,rfl,hH⟩
 .
  have c8:iY t=true:=by simpa using c8
  refine TT.skip (.seq (.seq (.region (.U hT 2 rfl (.call Tryz.call57 rfl rfl rfl rfl (ax.weaken sl (zG hP hQ hH (Z:=[(jt,blk [.int .i64 t] 2 (0,0))]) (p:=fun x=>decide (x=t)) uQ (lW false) Tryz.call65 Tryz.call64 (fun x r'=>FA) (fun x hs=>qB))) ?_)))))
  rintro oH iV ⟨H1,g1,rfl,rfl,oE,AX⟩
  refine OT.U hT 4 rfl (.nil (.seq (.ret (.of (rs:=[.tmp 4,.tmp 5]) [_,_] (H1::r) rfl (.tmp rfl (.tmp rfl .nil)) sl ?_))))
  try dsimp only[one]
  exact .inr ⟨c8,H1,g1,rfl,rfl,oE,AX⟩
set_option maxHeartbeats 1000000 in
set_option maxRecDepth 100000 in
theorem CU{x:Int}{hs:List Chunk}:ax Tryz.prog 63 [.int .i64 x] hs (fun v' hs'=>v'= .bool true/\hs'=hs):=by
 refine ax.enter 3 Tryz.func63 rfl Tryz.ntmps63 rfl ?_
 refine TT.seq (.region (.U hT 1 rfl (.nil (.seq (.seq (.region (.U hT 1 rfl (.nil (.seq (.ret (.of (rs:=[.tmp 2]) [_] hs rfl (.tmp rfl .nil) sl ?_)))))))))))
 try dsimp only[one]
 exact⟨rfl,rfl⟩
set_option maxHeartbeats 1000000 in
set_option maxRecDepth 100000 in
theorem FB{P:Value}{I:Chunk->Prop}{Qb:ah}(hP:cM Tryz.prog 5 P I (fun _ _=>False) (aI Qb))(hQ:cC Qb){b:Nat}{g:az}{H:Chunk}{r:List Chunk}(hH:ej 110 b P I Qb g H):ax Tryz.prog 23 [.pointer (some ⟨b,0,none⟩)] (H::r) (fun v' hs'=>∃H' g',hs'=H'::r/\v'= .tuple ⟨[.int .i64 (pV g.2 (fun _=>true):Nat),.int .i64 0]⟩/\ej 110 b P I Qb g' H'/\g'.2=ue g.2 (fun _=>true) ez):=by
 refine ax.enter 8 Tryz.func23 rfl Tryz.ntmps23 rfl ?_
 refine TT.seq (.region (.U hT 2 rfl (.nil (.seq (.seq (.region (.U hT 1 rfl (.iG (.call Tryz.call57 rfl rfl rfl rfl (ax.weaken sl (zG hP hQ hH (Z:=[]) (p:=fun _=>true) uQ (lW false) Tryz.call63 Tryz.call64 (fun x r'=>CU) (fun x hs=>qB))) ?_)))))))))
 rintro Ou JE ⟨H1,g1,rfl,rfl,oE,AX⟩
 refine OT.U hT 4 rfl (.nil (.seq (.ret (.of (rs:=[.tmp 2,.tmp 3]) [_,_] (H1::r) rfl (.tmp rfl (.tmp rfl .nil)) sl ?_))))
 try dsimp only[one]
 exact⟨H1,g1,rfl,rfl,oE,AX⟩
end Go.Proofs.YtihpkgmfkbkffaaGreat.Sx
end
section
namespace Go.Proofs.YtihpkgmfkbkffaaGreat.Sx
open Go Go.Sx Go.Pl
variable[aq]
set_option maxHeartbeats 2000000 in
set_option maxRecDepth 100000 in
theorem yb{hs:List Chunk}:ax Tryz.prog 89 [] hs (fun v' hs'=>v'= .bool true/\hs=hs'):=by
 refine ax.enter 99 Tryz.func89 rfl Tryz.ntmps89 rfl ?_
 refine TT.seq (.region (.U hT 1 rfl (.nil (.seq (.seq (.region (.build (cs:=cE (List.replicate 96 (.slice none 0 0))) hT rfl Tryz.zeroValue30 rfl rfl rfl rfl (.box rfl rfl rfl (fun nw=> ?_)))))))))
 refine OT.bU Tryz.underlying26 rfl rfl rfl rfl ?_
 have HM:iN 30 nw C7 [(nw,blk (cE (List.replicate 96 (.slice none 0 0))) 30 (0,0))]:=iN.one (fz.zero [[]])
 show OT _ _ _ _ _ ([(nw,blk (cE (List.replicate 96 (.slice none 0 0))) 30 (0,0))]::hs)
 generalize([(nw,blk (cE (List.replicate 96 (.slice none 0 0))) 30 (0,0))]:Chunk)=HB at HM⊢
 refine OT.call Tryz.call15 rfl rfl rfl rfl (zE HM) ?_
 rintro uh pI ⟨b1,HS,rfl,rfl,Mc⟩
 refine OT.U hT 1 rfl (.nil (.seq (.seq (.region (.build (cs:=bA cB.val) hT rfl Tryz.zeroValue36 rfl rfl rfl rfl (.build (cs:=aj cB) hT rfl Tryz.zeroValue113 rfl rfl rfl rfl (.alloc Tryz.zeroValue113 rfl rfl (fun b_2=> ?_))))))))
 refine OT.ag hT rfl rfl rfl rfl pl rfl rfl rfl (.inl (Nat.le_refl _)) ?_
 refine OT.nil (.seq (.seq (.region (.build (cs:=bA cA.val) hT rfl Tryz.zeroValue36 rfl rfl rfl rfl (.build (cs:=aj cA) hT rfl Tryz.zeroValue113 rfl rfl rfl rfl (.alloc Tryz.zeroValue113 rfl rfl (fun jt=> ?_)))))))
 refine OT.ag hT rfl rfl rfl rfl pl rfl rfl rfl (.inl (Nat.le_refl _)) ?_
 refine OT.nil (.seq (.seq (.draw (([(jt,blk (aj cA) 113 (0,0))]::[(b_2,blk (aj cB) 113 (0,0))]::hs)) mixed (.takes (fuel:=6) hT [0,3] kr kr rfl (.take (fuel:=5) hT 1 rfl rfl kr kr kr rfl (.load rfl (Ld.af hT rfl hz rfl)) rfl ?_)))))
 refine AT.take (fuel:=4) hT 4 rfl rfl kr kr kr rfl (.load rfl (Ld.af hT rfl hz rfl)) rfl ?_
 refine AT.op (fuel:=3) 2 kr rfl sl (.call Tryz.call54 rfl rfl rfl rfl (ax.pull pl (zF Mc (x:=cB) (by decide))) ?_)
 rintro yH sY ⟨H1,g1,e1,rfl,rfl,Dj,FT⟩
 obtain⟨rfl,AX⟩:=Ko FT
 refine OT.nil (.any (.op (fuel:=2) 5 kr rfl sl (.call Tryz.call54 rfl rfl rfl rfl (ax.pull pl (zF Dj (x:=cA) (by decide))) ?_)))
 rintro Dn DP ⟨H2,g2,e2,rfl,rfl,hU,qF⟩
 obtain⟨rfl,AW⟩:=Kp AX qF
 refine OT.nil (.any (.takes (fuel:=0) hT [6,7] kr kr rfl (.done kr sl (.seq (.seq (.region (.U hT 1 rfl (.bU Tryz.underlying24 rfl rfl rfl rfl (.call Tryz.call53 rfl rfl rfl rfl (ax.pull pl (KY hU)) ?_)))))))))
 rintro yF v8 ⟨H3,rfl,rfl,AU⟩
 rw[AW,show cq [cA,cB] (⟨#[98]⟩:ByteArray)=some cB from Cp]
 refine OT.U hT 4 rfl (.alloc Tryz.zeroValue113 rfl rfl (fun gB=> ?_))
 refine OT.ag hT rfl rfl rfl rfl pl rfl rfl rfl (.inl (Nat.le_refl _)) ?_
 refine OT.U hT 2 rfl (.nil (.seq (.seq (.region (.U hT 1 rfl (.bU Tryz.underlying24 rfl rfl rfl rfl (.call Tryz.call60 rfl rfl rfl rfl (ax.pull pl (Hf AU)) ?_)))))))
 rintro Jy Tc ⟨H4,K4,v4,rfl,rfl,LZ,HN⟩
 rw[Eg,AW]at LZ
 obtain⟨a4,c4,Vh⟩:=(LZ.row (hs:=[])).len
 subst Vh
 refine OT.U hT 5 rfl (.nil (.seq (.seq (.region (.U hT 1 rfl (.call Tryz.call56 rfl rfl rfl rfl (ax.pull pl (KX HN)) ?_))))))
 rintro Wc Td ⟨H5,g5,rfl,rfl,Ja,PS,_⟩
 rw[AW,show cq [cA,cB] (⟨#[97]⟩:ByteArray)=some cA from Cq]
 refine OT.U hT 5 rfl (.nil (.seq (.seq (.region (.U hT 3 rfl (.U hT 4 rfl (.U hT 3 rfl (.U hT 4 rfl (.U hT 2 rfl (.load rfl rfl (Ld.one hT rfl hz rfl) rfl ?_))))))))))
 refine OT.O5 uP rfl rfl rfl rfl (.U hT 2 rfl (.U hT 5 rfl (.U hT 1 rfl (.index hT rfl rfl rfl rfl (LZ.row.there) (by omega) rfl rfl (fun Te K_=> ?_)))))
 obtain⟨Tf,Tg,rfl,Hj⟩:=K_.at (P:=Tryz.prog)
 refine OT.U hT 1 rfl (.load rfl rfl (Hj hT rfl rfl) rfl (.U hT 3 rfl (.U hT 4 rfl (.U hT 3 rfl (.U hT 4 rfl (.U hT 1 rfl (.bU Tryz.underlying24 rfl rfl rfl rfl (.call Tryz.call70 rfl rfl rfl rfl (ax.pull pl (xy Ja)) ?_))))))))
 rintro Wd Th ⟨H6,rfl,rfl,HO⟩
 refine OT.U hT 3 rfl (.U hT 1 rfl (.build (cs:=aj noCell) hT rfl Tryz.zeroValue113 rfl rfl rfl rfl (.call Tryz.call54 rfl rfl rfl rfl (ax.pull pl (zF HO (x:=noCell) (by decide))) ?_)))
 rintro We Ti ⟨H7,g7,e7,rfl,rfl,Xl,Vi⟩
 obtain rfl:=Kq Vi
 refine OT.U hT 3 rfl (.nil (.seq (.ret (.of (rs:=[.tmp 0]) [_] hs rfl (.tmp rfl .nil) sl ?_))))
 try dsimp only[one]
 exact⟨rfl,rfl⟩
end Go.Proofs.YtihpkgmfkbkffaaGreat.Sx
end
section
namespace Go.Proofs.YtihpkgmfkbkffaaGreat.Sx
open Go Go.Sx Go.Pl
variable[aq]
omit [aq] in
theorem i_.good{b:Nat}{g:az}{H:Chunk}(h:i_ b g H):kD g.2:=by obtain⟨bk,h⟩:=h;exact h.good
theorem uF{b:Nat}{g:az}{H:Chunk}{r:List Chunk}(hH:i_ b g H){t:Int}{k:ByteArray}:ax Tryz.prog 20 [.iface 24 (.pointer (some ⟨b,0,none⟩)),.int .i64 t,.string k] (H::r) (fun v' hs'=>∃H',hs'=H'::r/\v'= .tuple ⟨[.agg ⟨bA (oF g.2 t k)⟩,.int .i64 0]⟩/\i_ b g H'):=by
 obtain⟨bk,h⟩:=hH
 refine(K7 jY dP h).mono ?_
 rintro v' hs' ⟨H',h1,h2,h3⟩
 exact⟨H',h1,h2,bk,h3⟩
theorem xz{b:Nat}{g:az}{H:Chunk}{r:List Chunk}(hH:i_ b g H){t:Int}{s e:ByteArray}:ax Tryz.prog 19 [.iface 24 (.pointer (some ⟨b,0,none⟩)),.int .i64 t,.string s,.string e] (H::r) (fun v' hs'=>∃H' K v,hs'=H'::K::r/\v'= .tuple ⟨[v,.int .i64 0]⟩/\Own bL 4 60 v (iJ g.2 t s e) K/\i_ b g H'):=by
 obtain⟨bk,h⟩:=hH
 refine(Fy jY dP h).mono ?_
 rintro v' hs' ⟨H',K,v,h1,h2,h3,h4⟩
 exact⟨H',K,v,h1,h2,h3,bk,h4⟩
theorem rL{b:Nat}{g:az}{H:Chunk}{r:List Chunk}(hH:i_ b g H){t:Int}{k:ByteArray}{v:Vl}(HL:v.f<2^64):ax Tryz.prog 16 [.pointer (some ⟨b,0,none⟩),.int .i64 t,.string k,.agg ⟨bA v⟩] (H::r) (fun v' hs'=>∃H' g' e,hs'=H'::r/\v'= .int .i64 e/\i_ b g' H'/\fE t k v g g' e):=by
 obtain⟨bk,h⟩:=hH
 refine(Fz jY dP h HL).mono ?_
 rintro v' hs' ⟨H',g',e,h1,h2,h3,h4⟩
 exact⟨H',g',e,h1,h2,⟨bk,h3⟩,h4⟩
theorem CV{b:Nat}{g:az}{H:Chunk}{r:List Chunk}(hH:i_ b g H){t:Int}(ht:iY t=true):ax Tryz.prog 18 [.pointer (some ⟨b,0,none⟩),.int .i64 t] (H::r) (fun v' hs'=>∃H' g',hs'=H'::r/\v'= .tuple ⟨[.int .i64 (pV g.2 (fun x=>decide (x=t)):Nat),.int .i64 0]⟩/\i_ b g' H'/\g'.2=ue g.2 (fun x=>decide (x=t)) cR):=by
 obtain⟨bk,h⟩:=hH
 refine(ua jY dP h).mono ?_
 rintro v' hs' (⟨h0,_⟩|⟨_,H',g',h1,h2,h3,h4⟩)
 . rw[ht]at h0;cases h0
 . exact⟨H',g',h1,h2,⟨bk,h3⟩,h4⟩
theorem FC{b:Nat}{g:az}{H:Chunk}{r:List Chunk}(hH:i_ b g H):ax Tryz.prog 23 [.pointer (some ⟨b,0,none⟩)] (H::r) (fun v' hs'=>∃H' g',hs'=H'::r/\v'= .tuple ⟨[.int .i64 (pV g.2 (fun _=>true):Nat),.int .i64 0]⟩/\i_ b g' H'/\g'.2=ue g.2 (fun _=>true) ez):=by
 obtain⟨bk,h⟩:=hH
 refine(FB jY dP h).mono ?_
 rintro v' hs' ⟨H',g',h1,h2,h3,h4⟩
 exact⟨H',g',h1,h2,⟨bk,h3⟩,h4⟩
set_option maxHeartbeats 1000000 in
set_option maxRecDepth 100000 in
theorem jm{v:Value}{d:List bE}{k:ByteArray}{hs:List Chunk}(hr:Row bL 4 hs v d)(hl:d.length<=100000):ax Tryz.prog 21 [v,.string k] hs (fun v' hs'=>v'= .tuple ⟨[.agg ⟨bA ((bO d k).getD aW)⟩,.bool (bO d k).isSome]⟩/\hs=hs'):=by
 refine ax.enter 26 Tryz.func21 rfl Tryz.ntmps21 rfl ?_
 obtain⟨a0,c0,hv⟩:=hr.len
 subst hv
 refine TT.seq (.region (.alloc Tryz.zeroValue36 rfl rfl (fun nG=> ?_)))
 refine OT.U hT 1 rfl (.nil (.seq (.seq (.seq (.region (.U hT 1 rfl (.nil (.seq (.block (.loop (ι:=Nat) (fun j=>(j)<=d.length/\bO d k=bO (d.drop (j)) k) (fun j=>d.length-(j)) (fun j=>[(0,.slice a0 d.length c0),(1,.string k),(4,.pointer (some ⟨nG,0,none⟩)),(6,.int .i64 ((j):Nat))]) (fun j=>[(nG,blk (bA aW) 36 (0,0))]::hs) (0) ?_ (aa.cons rfl (aa.cons rfl (aa.cons rfl (aa.cons rfl (aa.nil _))))) sl ?_))))))))))
 . exact⟨Nat.zero_le _,rfl⟩
 rintro i ⟨hi,hg⟩
 show TT _ _ _ [(0,.slice a0 d.length c0),(1,.string k),(4,.pointer (some ⟨nG,0,none⟩)),(6,.int .i64 (i:Nat))] ([(nG,blk (bA aW) 36 (0,0))]::hs)
 refine TT.seq (.seq (.region (.U hT 4 rfl (.nil (.seq (.cond rfl (fun c_=> ?_) (fun c_=> ?_)))))))
 .
  have c_:=of_decide_eq_true c_
  obtain⟨y,hy⟩:=nth (l:=d) (i:=i) (by omega)
  have C1:d.drop i=y::d.drop (i+1):=by rw[List.drop_eq_getElem_cons (by omega)];congr 1;rw[List.getElem?_eq_getElem (by omega)]at hy;injection hy
  refine TT.skip (.seq (.seq (.block (.seq (.region (.U hT 2 rfl (.index hT rfl rfl rfl rfl hr.there (by omega) (by rw[Int.toNat_natCast];exact hy) rfl (fun Ia q_=> ?_))))))))
  obtain⟨Tj,Tk,rfl,Hl⟩:=q_.at (P:=Tryz.prog)
  refine OT.U hT 1 rfl (.load rfl rfl (Hl hT rfl rfl) rfl (.U hT 2 rfl (.nil (.seq (.cond rfl (fun uo=> ?_) (fun uo=> ?_))))))
  .
   have Vj:bO d k=some y.2:=by rw[hg,C1];unfold bO;rw[List.find?_cons,uo];rfl
   refine TT.seq (.region (.U hT 2 rfl (.index hT rfl rfl rfl rfl hr.there (by omega) (by rw[Int.toNat_natCast];exact hy) rfl (fun Tl Ew=> ?_))))
   obtain⟨Tm,Tn,rfl,OB⟩:=Ew.at (P:=Tryz.prog)
   refine OT.U hT 1 rfl (.load rfl rfl (Ew.uC hT rfl 1 (vs:=bA y.2) rfl (by decide)) rfl (.ag hT rfl rfl rfl rfl pl rfl rfl rfl (.inl (Nat.le_refl _)) ?_))
   refine OT.U hT 1 rfl (.nil (.seq (.ret (.of (rs:=[.cell 4 36,.tmp 5]) [_,_] hs rfl (.cell rfl (Ld.af hT rfl hz rfl) (.tmp rfl .nil)) sl ?_))))
   try dsimp only[one]
   exact⟨by rw[Vj];rfl,rfl⟩
  .
   refine TT.skip (.blk (.seq (.region (.U hT 3 rfl (.nil (.loop (i+1) ?_ ?_ (aa.cons rfl (aa.cons rfl (aa.cons rfl (aa.aD rfl (by(try dsimp only);exact(int_eq (by rw[wrap_i64 (by omega) (by omega)];omega))) (aa.nil _))))) sl))))))
   . exact⟨by omega,by rw[hg,C1];unfold bO;rw[List.find?_cons,uo]⟩
   . omega
 .
  have c_:=of_decide_eq_false c_
  obtain rfl:i=d.length:=by omega
  have AW:bO d k=none:=by rw[hg,List.drop_length];rfl
  refine TT.exit (.seq (.loop (.here (.seq (.seq (.region (.build (cs:=bA aW) hT rfl Tryz.zeroValue36 rfl rfl rfl rfl (.ag hT rfl rfl rfl rfl pl rfl rfl rfl (.inl (Nat.le_refl _)) ?_))))))))
  refine OT.U hT 1 rfl (.nil (.seq (.ret (.of (rs:=[.cell 4 36,.tmp 5]) [_,_] hs rfl (.cell rfl (Ld.af hT rfl hz rfl) (.tmp rfl .nil)) sl ?_))))
  try dsimp only[one]
  exact⟨by rw[AW];rfl,rfl⟩
set_option maxHeartbeats 1000000 in
set_option maxRecDepth 100000 in
theorem xA{va vb:Value}{d:List bE}{hs:List Chunk}(ha:Row bL 4 hs va d)(hb:Row bL 4 hs vb d)(hl:d.length<=100000)(hf:∀p∈d,p.2.f<2^64):ax Tryz.prog 24 [va,vb] hs (fun v' hs'=>v'= .bool true/\hs=hs'):=by
 refine ax.enter 42 Tryz.func24 rfl Tryz.ntmps24 rfl ?_
 obtain⟨a0,c0,hv⟩:=ha.len
 subst hv
 obtain⟨a1,c1,hv⟩:=hb.len
 subst hv
 refine TT.seq (.region (.U hT 1 rfl (.nil (.seq (.seq (.seq (.region (.U hT 5 rfl (.nil (.seq (.cond rfl (fun c_=> ?_) (fun c_=> ?_))))))))))))
 .
  exact absurd c_ (by simp)
 .
  refine TT.skip (.seq (.seq (.seq (.region (.U hT 1 rfl (.nil (.seq (.block (.loop (ι:=Nat) (fun j=>(j)<=d.length) (fun j=>d.length-(j)) (fun j=>[(0,.slice a0 d.length c0),(1,.slice a1 d.length c1),(5,.int .i64 ((j):Nat))]) (fun j=>hs) (0) ?_ (aa.cons rfl (aa.cons rfl (aa.cons rfl (aa.nil _)))) sl ?_)))))))))
  . exact Nat.zero_le _
  rintro i hi
  show TT _ _ _ [(0,.slice a0 d.length c0),(1,.slice a1 d.length c1),(5,.int .i64 (i:Nat))] (hs)
  refine TT.seq (.seq (.region (.U hT 4 rfl (.nil (.seq (.cond rfl (fun j8=> ?_) (fun j8=> ?_)))))))
  .
   have j8:=of_decide_eq_true j8
   obtain⟨y,hy⟩:=nth (l:=d) (i:=i) (by omega)
   have Si:=hf y (List.mem_of_getElem? hy)
   refine TT.skip (.seq (.seq (.block (.seq (.draw (hs) mixed (.takes (fuel:=21) hT [0,1,5,6] kr kr rfl (.index (fuel:=20) hT 2 rfl kr kr kr rfl rfl rfl rfl ha (by omega) (by rw[Int.toNat_natCast];exact hy) rfl (fun ND zq=> ?_))))))))
   obtain⟨To,Tp,rfl,Ho⟩:=zq.at (P:=Tryz.prog)
   refine AT.takes (fuel:=19) hT [3] kr kr rfl (.take (fuel:=18) hT 4 rfl rfl kr kr kr rfl (.load rfl (Ho hT rfl rfl)) rfl (.index (fuel:=17) hT 7 rfl kr kr kr rfl rfl rfl rfl hb (by omega) (by rw[Int.toNat_natCast];exact hy) rfl (fun DV mN=> ?_)))
   obtain⟨N1,N2,rfl,uZ⟩:=mN.at (P:=Tryz.prog)
   refine AT.takes (fuel:=16) hT [8] kr kr rfl (.take (fuel:=15) hT 9 rfl rfl kr kr kr rfl (.load rfl (uZ hT rfl rfl)) rfl (.takes (fuel:=13) hT [10,11] kr kr rfl (.split 28 rfl (fun Lr=> ?_) (fun Lr=> ?_))))
   .
    exact absurd Lr (by simp)
   .
    refine AT.takes (fuel:=9) hT [12,13,17,18] kr kr rfl (.index (fuel:=8) hT 14 rfl kr kr kr rfl rfl rfl rfl ha (by omega) (by rw[Int.toNat_natCast];exact hy) rfl (fun Tq Ex=> ?_))
    obtain⟨Tr,Ts,rfl,OC⟩:=Ex.at (P:=Tryz.prog)
    refine AT.takes (fuel:=7) hT [15] kr kr rfl (.take (fuel:=6) hT 16 rfl rfl kr kr kr rfl (.load rfl (Ex.uC hT rfl 1 (vs:=bA y.2) rfl (by decide))) rfl (.index (fuel:=5) hT 19 rfl kr kr kr rfl rfl rfl rfl hb (by omega) (by rw[Int.toNat_natCast];exact hy) rfl (fun Tt Ey=> ?_)))
    obtain⟨Tu,Tv,rfl,OD⟩:=Ey.at (P:=Tryz.prog)
    refine AT.takes (fuel:=4) hT [20] kr kr rfl (.take (fuel:=3) hT 21 rfl rfl kr kr kr rfl (.load rfl (Ey.uC hT rfl 1 (vs:=bA y.2) rfl (by decide))) rfl (.op (fuel:=2) 22 kr rfl sl (.call Tryz.call22 rfl rfl rfl rfl (jL Si Si) ?_)))
    rintro vB v_ ⟨rfl,rfl⟩
    refine OT.nil (.any (.takes (fuel:=0) hT [23,24] kr kr rfl (.done kr sl (.seq (.cond rfl (fun qD=> ?_) (fun qD=> ?_))))))
    .
     exact absurd qD (by rw[lX];simp)
    .
     refine TT.skip (.blk (.seq (.region (.U hT 3 rfl (.nil (.loop (i+1) ?_ ?_ (aa.cons rfl (aa.cons rfl (aa.aD rfl (by(try dsimp only);exact(int_eq (by rw[wrap_i64 (by omega) (by omega)];omega))) (aa.nil _)))) sl))))))
     . omega
     . omega
  .
   have j8:=of_decide_eq_false j8
   refine TT.exit (.seq (.loop (.here (.seq (.seq (.region (.U hT 1 rfl (.nil (.seq (.ret (.of (rs:=[.tmp 4]) [_] hs rfl (.tmp rfl .nil) sl ?_)))))))))))
   try dsimp only[one]
   exact⟨rfl,rfl⟩
set_option maxHeartbeats 1000000 in
set_option maxRecDepth 100000 in
theorem yc{hs:List Chunk}:ax Tryz.prog 49 [] hs (fun v' hs'=>v'= .bool true/\hs=hs'):=by
 refine ax.enter 2 Tryz.func49 rfl Tryz.ntmps49 rfl ?_
 refine TT.seq (.region (.U hT 1 rfl (.nil (.seq (.seq (.region (.call Tryz.call89 rfl rfl rfl rfl (yb) ?_)))))))
 rintro v_1 Wf ⟨rfl,rfl⟩
 refine OT.U hT 1 rfl (.nil (.seq (.ret (.of (rs:=[.tmp 0]) [_] hs rfl (.tmp rfl .nil) sl ?_))))
 try dsimp only[one]
 exact⟨rfl,rfl⟩
set_option maxHeartbeats 2000000 in
set_option maxRecDepth 100000 in
theorem yd{hs:List Chunk}:ax Tryz.prog 14 [] hs (fun v' hs'=>v'= .bool true/\hs=hs'):=by
 refine ax.enter 91 Tryz.func14 rfl Tryz.ntmps14 rfl ?_
 refine TT.seq (.region (.U hT 1 rfl (.nil (.seq (.seq (.region (.build (cs:=cE (List.replicate 96 (.slice none 0 0))) hT rfl Tryz.zeroValue30 rfl rfl rfl rfl (.box rfl rfl rfl (fun nw=> ?_)))))))))
 refine OT.bU Tryz.underlying26 rfl rfl rfl rfl ?_
 have HM:iN 30 nw C7 [(nw,blk (cE (List.replicate 96 (.slice none 0 0))) 30 (0,0))]:=iN.one (fz.zero [[]])
 show OT _ _ _ _ _ ([(nw,blk (cE (List.replicate 96 (.slice none 0 0))) 30 (0,0))]::hs)
 generalize([(nw,blk (cE (List.replicate 96 (.slice none 0 0))) 30 (0,0))]:Chunk)=HB at HM⊢
 refine OT.call Tryz.call15 rfl rfl rfl rfl (zE HM) ?_
 rintro uh pI ⟨b1,HS,rfl,rfl,Mc⟩
 refine OT.U hT 1 rfl (.nil (.seq (.seq (.region (.build (cs:=bA vF) hT rfl Tryz.zeroValue36 rfl rfl rfl rfl (.alloc Tryz.zeroValue36 rfl rfl (fun b_2=> ?_)))))))
 refine OT.ag hT rfl rfl rfl rfl pl rfl rfl rfl (.inl (Nat.le_refl _)) ?_
 refine OT.nil (.seq (.seq (.region (.U hT 1 rfl (.load rfl rfl (Ld.af hT rfl hz rfl) rfl ?_)))))
 refine OT.call Tryz.call16 rfl rfl rfl rfl (ax.pull pl (rL Mc (t:=1) (k:=kK) (v:=vF) (by decide))) ?_
 rintro ug qR ⟨H1,g1,e1,rfl,rfl,Dj,hw1⟩
 obtain⟨rfl,AX⟩:=GS hw1
 refine OT.U hT 1 rfl (.nil (.seq (.seq (.region (.U hT 1 rfl (.load rfl rfl (Ld.af hT rfl hz rfl) rfl ?_))))))
 refine OT.call Tryz.call16 rfl rfl rfl rfl (ax.pull pl (rL Dj (t:=2) (k:=kK) (v:=vF) (by decide))) ?_
 rintro yH sY ⟨H2,g2,e2,rfl,rfl,hU,Vk⟩
 obtain⟨rfl,rfl⟩:=GU AX Vk
 refine OT.U hT 1 rfl (.nil (.seq (.seq (.region (.U hT 1 rfl (.bU Tryz.underlying24 rfl rfl rfl rfl (.call Tryz.call20 rfl rfl rfl rfl (ax.pull pl (uF hU (t:=1) (k:=kK))) ?_)))))))
 rintro BF wj ⟨H3,rfl,rfl,AU⟩
 rw[AX,Nc]
 refine OT.U hT 3 rfl (.alloc Tryz.zeroValue36 rfl rfl (fun eM=> ?_))
 refine OT.ag hT rfl rfl rfl rfl pl rfl rfl rfl (.inl (Nat.le_refl _)) ?_
 refine OT.U hT 1 rfl (.nil (.seq (.seq (.region (.U hT 1 rfl (.bU Tryz.underlying24 rfl rfl rfl rfl (.call Tryz.call20 rfl rfl rfl rfl (ax.pull pl (uF AU (t:=2) (k:=kK))) ?_)))))))
 rintro Qw NC ⟨H4,rfl,rfl,HN⟩
 rw[AX,Nf]
 refine OT.U hT 3 rfl (.alloc Tryz.zeroValue36 rfl rfl (fun ni=> ?_))
 refine OT.ag hT rfl rfl rfl rfl pl rfl rfl rfl (.inl (Nat.le_refl _)) ?_
 refine OT.U hT 1 rfl (.nil (.seq (.seq (.region (.U hT 1 rfl (.call Tryz.call18 rfl rfl rfl rfl (ax.pull pl (CV HN (t:=1) (by decide))) ?_))))))
 rintro sJ AL ⟨H5,g5,rfl,rfl,Ja,PS⟩
 rw[AX,Nh]at PS
 rw[AX,Ng]
 refine OT.U hT 5 rfl (.nil (.seq (.seq (.region (.U hT 1 rfl (.bU Tryz.underlying24 rfl rfl rfl rfl (.call Tryz.call20 rfl rfl rfl rfl (ax.pull pl (uF Ja (t:=0) (k:=kK))) ?_)))))))
 rintro vE s0 ⟨H6,rfl,rfl,HO⟩
 rw[PS,Ni]
 refine OT.U hT 3 rfl (.alloc Tryz.zeroValue36 rfl rfl (fun Gi=> ?_))
 refine OT.ag hT rfl rfl rfl rfl pl rfl rfl rfl (.inl (Nat.le_refl _)) ?_
 refine OT.U hT 1 rfl (.nil (.seq (.seq (.region (.call Tryz.call49 rfl rfl rfl rfl (yc) ?_)))))
 rintro JI DW ⟨rfl,rfl⟩
 refine OT.U hT 1 rfl (.U hT 4 rfl (.U hT 4 rfl (.U hT 1 rfl (.load rfl rfl (Ld.one hT rfl hz rfl) rfl ?_))))
 refine OT.O5 uP rfl rfl rfl rfl (.U hT 2 rfl (.U hT 4 rfl (.U hT 1 rfl (.load rfl rfl (Ld.one hT rfl hz rfl) rfl ?_))))
 refine OT.U hT 3 rfl (.U hT 4 rfl (.U hT 4 rfl (.U hT 4 rfl (.U hT 1 rfl (.load rfl rfl (Ld.one hT rfl hz rfl) rfl ?_)))))
 refine OT.O5 uP rfl rfl rfl rfl (.U hT 2 rfl (.U hT 4 rfl (.nil (.seq (.ret (.of (rs:=[.tmp 0]) [_] hs rfl (.tmp rfl .nil) sl ?_))))))
 try dsimp only[one]
 exact⟨rfl,rfl⟩
end Go.Proofs.YtihpkgmfkbkffaaGreat.Sx
end
section
namespace Go.Proofs.YtihpkgmfkbkffaaGreat.Sx
open Go Go.Sx Go.Pl
variable[aq]
set_option maxHeartbeats 2000000 in
set_option maxRecDepth 100000 in
theorem pn{v:Value}{d:List bE}{k:ByteArray}{x:Vl}{hs:List Chunk}(hr:Row bL 4 hs v d)(hl:d.length<=100000):ax Tryz.prog 36 [v,.string k,.agg ⟨bA x⟩] hs (fun v' hs'=>∃K,hs'=K::hs/\Own bL 4 60 v' (iP d k x) K):=by
 refine ax.enter 59 Tryz.func36 rfl Tryz.ntmps36 rfl ?_
 obtain⟨a0,c0,hv⟩:=hr.len
 subst hv
 refine TT.seq (.region (.box rfl rfl rfl (fun eM=> ?_)))
 refine OT.U hT 1 rfl (.nil (.seq (.seq (.region (.U hT 1 rfl (.nil (.seq (.seq (.region (.U hT 1 rfl (.load rfl rfl (Ld.one hT rfl hz rfl) rfl ?_)))))))))))
 refine OT.U hT 2 rfl (.nil (.seq (.seq (.seq (.region (.eH 12 rfl (v:= .bool (decide (x.kind=0))) (congrArg Value.bool (by rw[Bool.eq_iff_iff];simp)) (.U hT 1 rfl ?_)))))))
 refine OT.nil (.seq (.block (.loop (ι:=Nat×Value×Chunk) (fun j=>(j.1)<=d.length/\Own bL 4 60 (j.2.1) (dw d k x (j.1)).1 (j.2.2)) (fun j=>d.length-(j.1)) (fun j=>[(0,.slice a0 d.length c0),(1,.string k),(5,.pointer (some ⟨eM,0,none⟩)),(7,(j.2.1)),(8,.bool (dw d k x (j.1)).2),(9,.int .i64 ((j.1):Nat))]) (fun j=>(j.2.2)::[(eM,blk (bA x) 36 (0,0))]::hs) (0,.slice none 0 0,[]) ?_ (aa.cons rfl (aa.cons rfl (aa.cons rfl (aa.cons rfl (aa.cons rfl (aa.cons rfl (aa.nil _))))))) (.empty sl) ?_)))
 . dsimp only
   exact⟨Nat.zero_le _,Own.nil⟩
 rintro⟨i,w,K⟩ hI
 dsimp only at hI
 obtain⟨hi,oD⟩:=hI
 show TT _ _ _ [(0,.slice a0 d.length c0),(1,.string k),(5,.pointer (some ⟨eM,0,none⟩)),(7,w),(8,.bool (dw d k x i).2),(9,.int .i64 (i:Nat))] (K::[(eM,blk (bA x) 36 (0,0))]::hs)
 refine TT.seq (.seq (.region (.U hT 4 rfl (.nil (.seq (.cond rfl (fun fy=> ?_) (fun fy=> ?_)))))))
 .
  have fy:=of_decide_eq_true fy
  obtain⟨y,hy⟩:=nth (l:=d) (i:=i) (by omega)
  have hlen:=tP d k x i
  have Jb:=z_ (k:=k) (v:=x) hy
  refine TT.skip (.seq (.seq (.block (.cut (ι:=Value×Chunk) (fun j=>Own bL 4 60 (j.1) (iO k x (dw d k x i) y).1 (j.2)) (fun j=>[(0,.slice a0 d.length c0),(1,.string k),(5,.pointer (some ⟨eM,0,none⟩)),(7,(j.1)),(8,.bool (iO k x (dw d k x i) y).2),(9,.int .i64 (i:Nat))]) (fun j=>(j.2)::[(eM,blk (bA x) 36 (0,0))]::hs) ?_ ?_))))
  .
   refine TT.seq (.region (.U hT 3 rfl (.split 21 rfl (fun mm=> ?_) (fun mm=> ?_))))
   .
    have mm:(dw d k x i).2=false:=by simpa using mm
    refine OT.U hT 2 rfl (.index hT rfl rfl rfl rfl (hr.there.there) (by omega) (by rw[Int.toNat_natCast];exact hy) rfl (fun DV mN=> ?_))
    obtain⟨N1,N2,rfl,uZ⟩:=mN.at (P:=Tryz.prog)
    refine OT.U hT 1 rfl (.load rfl rfl (uZ hT rfl rfl) rfl (.U hT 3 rfl (.nil (.seq (.cond rfl (fun sU=> ?_) (fun sU=> ?_))))))
    .
     have hmid:iO k x (dw d k x i) y=((dw d k x i).1++[(k,x)],true):=by unfold iO bY;rw[if_pos ⟨mm,by simpa using sU⟩]
     refine TT.seq (.region (.U hT 2 rfl (.load rfl rfl (Ld.af hT rfl hz rfl) rfl ?_)))
     refine OT.build (cs:=bL (k,x)) hT rfl Tryz.zeroValue60 rfl rfl rfl rfl ?_
     refine OT.buildSlice (enc:=bL) (xs:=[(k,x)]) (ij:=[.tmp 33]) sF rfl rfl rfl rfl rfl (by simp[Value.cells];rfl) (fun _ _=>rfl) rfl (by decide) rfl (fun BG Wg N3=> ?_)
     refine OT.append hT sF rfl rfl rfl rfl pl oD (N3.row) (cO (fun _=>rfl) _) (by simp only[List.length_singleton];omega) rfl (fun JF MV AO=> ?_)
     refine OT.U hT 1 rfl (.nil (.seq (.region (.U hT 1 rfl (.nil (.cut (JF,MV) ?_ (aa.cons rfl (aa.cons rfl (aa.cons rfl (aa.cons rfl (aa.aD rfl (by(try dsimp only);exact(by rw[hmid])) (aa.cons rfl (aa.nil _))))))) sl))))))
     . dsimp only
       exact(by rw[hmid];exact AO)
    .
     have hmid:iO k x (dw d k x i) y=dw d k x i:=by unfold iO bY;rw[if_neg (fun h=>by rw[h.2]at sU;simp at sU)]
     refine TT.skip (.cut (w,K) ?_ (aa.cons rfl (aa.cons rfl (aa.cons rfl (aa.cons rfl (aa.aD rfl (by(try dsimp only);exact(by rw[hmid])) (aa.cons rfl (aa.nil _))))))) sl)
     . dsimp only
       exact(by rw[hmid];exact oD)
   .
    have mm:¬(dw d k x i).2=false:=by simpa using mm
    have hmid:iO k x (dw d k x i) y=dw d k x i:=by unfold iO;rw[if_neg (fun h=>mm h.1)]
    have hdn:(dw d k x i).2=true:=by simpa using mm
    refine OT.U hT 8 rfl (.nil (.seq (.cond_false rfl (.skip (.cut (w,K) ?_ (aa.cons rfl (aa.cons rfl (aa.cons rfl (aa.cons rfl (aa.aD rfl (by(try dsimp only);exact(by rw[hmid])) (aa.cons rfl (aa.nil _))))))) sl)))))
    . dsimp only
      exact(by rw[hmid];exact oD)
  .
   rintro⟨w,K⟩ hI
   dsimp only at hI
   have oD:=hI
   show TT _ _ _ [(0,.slice a0 d.length c0),(1,.string k),(5,.pointer (some ⟨eM,0,none⟩)),(7,w),(8,.bool (iO k x (dw d k x i) y).2),(9,.int .i64 (i:Nat))] (K::[(eM,blk (bA x) 36 (0,0))]::hs)
   have hml:=xe k x (dw d k x i) y
   refine TT.seq (.region (.U hT 2 rfl (.index hT rfl rfl rfl rfl (hr.there.there) (by omega) (by rw[Int.toNat_natCast];exact hy) rfl (fun Nw zm=> ?_))))
   obtain⟨Tw,Tx,rfl,Hp⟩:=zm.at (P:=Tryz.prog)
   refine OT.U hT 1 rfl (.load rfl rfl (Hp hT rfl rfl) rfl (.U hT 2 rfl (.nil (.seq (.cond rfl (fun Jc=> ?_) (fun Jc=> ?_))))))
   .
    have Jc:y.1≠k:=by simpa using Jc
    refine TT.region (.U hT 3 rfl (.index hT rfl rfl rfl rfl (hr.there.there) (by omega) (by rw[Int.toNat_natCast];exact hy) rfl (fun Ty La=> ?_)))
    refine OT.load rfl rfl (La.cy hT rfl) rfl ?_
    refine OT.buildSlice (enc:=bL) (xs:=[y]) (ij:=[.tmp 47]) sF rfl rfl rfl rfl rfl (by simp[Value.cells];rfl) (fun _ _=>rfl) rfl (by decide) rfl (fun JM Gf qS=> ?_)
    refine OT.append hT sF rfl rfl rfl rfl pl oD (qS.row) (cO (fun _=>rfl) _) (by simp only[List.length_singleton];omega) rfl (fun QL QM N4=> ?_)
    refine OT.U hT 1 rfl (.nil (.blk (.seq (.region (.U hT 3 rfl (.nil (.loop (i+1,QL,QM) ?_ ?_ (aa.cons rfl (aa.cons rfl (aa.cons rfl (aa.cons rfl (aa.aD rfl (by(try dsimp only);exact((by rw[Jb,tN]))) (aa.aD rfl (by(try dsimp only);exact(int_eq (by rw[wrap_i64 (by omega) (by omega)];omega))) (aa.nil _))))))) sl)))))))
    . dsimp only
      exact⟨by omega,by rw[Jb];unfold dR;rw[if_pos Jc];exact N4⟩
    . dsimp only
      omega
   .
    have Jc:y.1=k:=by simpa using Jc
    refine TT.skip (.blk (.seq (.region (.U hT 3 rfl (.nil (.loop (i+1,w,K) ?_ ?_ (aa.cons rfl (aa.cons rfl (aa.cons rfl (aa.cons rfl (aa.aD rfl (by(try dsimp only);exact((by rw[Jb,tN]))) (aa.aD rfl (by(try dsimp only);exact(int_eq (by rw[wrap_i64 (by omega) (by omega)];omega))) (aa.nil _))))))) sl))))))
    . dsimp only
      exact⟨by omega,by rw[Jb];unfold dR;rw[if_neg (fun h=>h Jc)];exact oD⟩
    . dsimp only
      omega
 .
  have fy:=of_decide_eq_false fy
  obtain rfl:i=d.length:=by omega
  have hlen:=tP d k x d.length
  refine TT.exit (.seq (.loop (.here (.seq (.seq (.seq (.region (.U hT 2 rfl (.nil (.seq (.cond rfl (fun Jd=> ?_) (fun Jd=> ?_))))))))))))
  .
   have Jd:(dw d k x d.length).2=false:=by simpa using Jd
   refine TT.region (.U hT 2 rfl (.load rfl rfl (Ld.af hT rfl hz rfl) rfl ?_))
   refine OT.build (cs:=bL (k,x)) hT rfl Tryz.zeroValue60 rfl rfl rfl rfl ?_
   refine OT.buildSlice (enc:=bL) (xs:=[(k,x)]) (ij:=[.tmp 55]) sF rfl rfl rfl rfl rfl (by simp[Value.cells];rfl) (fun _ _=>rfl) rfl (by decide) rfl (fun MO Wh N5=> ?_)
   refine OT.append hT sF rfl rfl rfl rfl pl oD (N5.row) (cO (fun _=>rfl) _) (by simp only[List.length_singleton];omega) rfl (fun Wi QN N6=> ?_)
   refine OT.U hT 1 rfl (.nil (.seq (.seq (.region (.U hT 2 rfl (.nil (.seq (.ret (.of (rs:=[.tmp 6]) [_] (QN::hs) rfl (.tmp rfl .nil) sl ?_)))))))))
   try dsimp only[one]
   exact⟨_,rfl,by unfold iP;rw[if_pos Jd];exact N6⟩
  .
   have Jd:¬(dw d k x d.length).2=false:=by simpa using Jd
   refine TT.skip (.seq (.seq (.region (.U hT 2 rfl (.nil (.seq (.ret (.of (rs:=[.tmp 6]) [_] (K::hs) rfl (.tmp rfl .nil) sl ?_))))))))
   try dsimp only[one]
   exact⟨_,rfl,by unfold iP;rw[if_neg Jd];exact oD⟩
set_option maxHeartbeats 2000000 in
set_option maxRecDepth 100000 in
theorem Aq{v:Value}{d:List bE}{a b:ByteArray}{hs:List Chunk}(hr:Row bL 4 hs v d)(hl:d.length<=100000):ax Tryz.prog 33 [v,.string a,.string b] hs (fun v' hs'=>∃K,hs'=K::hs/\Own bL 4 60 v' (d.filter fun p=>bu p.1 a b) K):=by
 refine ax.enter 31 Tryz.func33 rfl Tryz.ntmps33 rfl ?_
 obtain⟨a0,c0,hv⟩:=hr.len
 subst hv
 refine TT.seq (.region (.U hT 1 rfl (.nil (.seq (.seq (.region (.U hT 1 rfl (.nil (.seq (.seq (.seq (.region (.U hT 1 rfl (.nil (.seq (.block (.loop (ι:=Nat×Value×Chunk) (fun j=>(j.1)<=d.length/\Own bL 4 60 (j.2.1) ((d.take (j.1)).filter fun p=>bu p.1 a b) (j.2.2)) (fun j=>d.length-(j.1)) (fun j=>[(0,.slice a0 d.length c0),(1,.string a),(2,.string b),(7,(j.2.1)),(8,.int .i64 ((j.1):Nat))]) (fun j=>(j.2.2)::hs) (0,.slice none 0 0,[]) ?_ (aa.cons rfl (aa.cons rfl (aa.cons rfl (aa.cons rfl (aa.cons rfl (aa.nil _)))))) (.empty sl) ?_)))))))))))))))))
 . dsimp only
   exact⟨Nat.zero_le _,Own.nil⟩
 rintro⟨i,w,K⟩ hI
 dsimp only at hI
 obtain⟨hi,oD⟩:=hI
 show TT _ _ _ [(0,.slice a0 d.length c0),(1,.string a),(2,.string b),(7,w),(8,.int .i64 (i:Nat))] (K::hs)
 refine TT.seq (.seq (.region (.U hT 4 rfl (.nil (.seq (.cond rfl (fun ew=> ?_) (fun ew=> ?_)))))))
 .
  have ew:=of_decide_eq_true ew
  obtain⟨y,hy⟩:=nth (l:=d) (i:=i) (by omega)
  have hlen:((d.take i).filter fun p=>bu p.1 a b).length<=d.length:=Nat.le_trans (List.length_filter_le _ _) (by rw[List.length_take];omega)
  have Jb:(d.take (i+1)).filter (fun p=>bu p.1 a b)=(d.take i).filter (fun p=>bu p.1 a b)++[y].filter (fun p=>bu p.1 a b):=by rw[List.take_add_one,hy,Option.toList_some,List.filter_append]
  refine TT.skip (.seq (.seq (.block (.seq (.region (.U hT 2 rfl (.index hT rfl rfl rfl rfl (hr.there) (by omega) (by rw[Int.toNat_natCast];exact hy) rfl (fun Tz Lb=> ?_))))))))
  obtain⟨TA,TB,rfl,Hq⟩:=Lb.at (P:=Tryz.prog)
  refine OT.U hT 1 rfl (.load rfl rfl (Hq hT rfl rfl) rfl (.U hT 2 rfl (.call Tryz.call69 rfl rfl rfl rfl (GY) ?_)))
  rintro yJ qQ ⟨rfl,rfl⟩
  refine OT.nil (.seq (.cond rfl (fun l9=> ?_) (fun l9=> ?_)))
  .
   have hone:[y].filter (fun p=>bu p.1 a b)=[y]:=by rw[List.filter_cons,if_pos l9];rfl
   refine TT.region (.U hT 3 rfl (.index hT rfl rfl rfl rfl (hr.there) (by omega) (by rw[Int.toNat_natCast];exact hy) rfl (fun TC Lc=> ?_)))
   refine OT.load rfl rfl (Lc.cy hT rfl) rfl ?_
   refine OT.buildSlice (enc:=bL) (xs:=[y]) (ij:=[.tmp 27]) sF rfl rfl rfl rfl rfl (by simp[Value.cells];rfl) (fun _ _=>rfl) rfl (by decide) rfl (fun JR Wj N7=> ?_)
   refine OT.append hT sF rfl rfl rfl rfl pl oD (N7.row) (cO (fun _=>rfl) _) (by simp only[List.length_singleton];omega) rfl (fun qJ MW D1=> ?_)
   refine OT.U hT 1 rfl (.nil (.blk (.seq (.region (.U hT 3 rfl (.nil (.loop (i+1,qJ,MW) ?_ ?_ (aa.cons rfl (aa.cons rfl (aa.cons rfl (aa.cons rfl (aa.aD rfl (by(try dsimp only);exact(int_eq (by rw[wrap_i64 (by omega) (by omega)];omega))) (aa.nil _)))))) sl)))))))
   . dsimp only
     exact⟨by omega,by rw[Jb,hone];exact D1⟩
   . dsimp only
     omega
  .
   have hone:[y].filter (fun p=>bu p.1 a b)=[]:=by rw[List.filter_cons,if_neg (by rw[l9];simp)];rfl
   refine TT.skip (.blk (.seq (.region (.U hT 3 rfl (.nil (.loop (i+1,w,K) ?_ ?_ (aa.cons rfl (aa.cons rfl (aa.cons rfl (aa.cons rfl (aa.aD rfl (by(try dsimp only);exact(int_eq (by rw[wrap_i64 (by omega) (by omega)];omega))) (aa.nil _)))))) sl))))))
   . dsimp only
     exact⟨by omega,by rw[Jb,hone,List.append_nil];exact oD⟩
   . dsimp only
     omega
 .
  have ew:=of_decide_eq_false ew
  obtain rfl:i=d.length:=by omega
  rw[List.take_of_length_le (Nat.le_refl _)]at oD
  refine TT.exit (.seq (.loop (.here (.seq (.seq (.region (.U hT 2 rfl (.nil (.seq (.ret (.of (rs:=[.tmp 6]) [_] (K::hs) rfl (.tmp rfl .nil) sl ?_)))))))))))
  try dsimp only[one]
  exact⟨K,rfl,oD⟩
end Go.Proofs.YtihpkgmfkbkffaaGreat.Sx
end
section
namespace Go.Proofs.YtihpkgmfkbkffaaGreat.Sx
open Go Go.Sx Go.Pl
variable[aq]
set_option maxHeartbeats 1000000 in
set_option maxRecDepth 100000 in
theorem ou{b:Nat}{wd wo:Value}{hs:List Chunk}(hb:Has hs b (blk [wd,wo] 65 (0,0))){ow:List aP}{key:ByteArray}(hr:Row dr 5 hs wo ow)(hl:ow.length<=100000):ax Tryz.prog 28 [.pointer (some ⟨b,0,none⟩),.string key] hs (fun v' hs'=>∃z,v'= .int .i64 z/\Ot ow key z/\hs=hs'):=by
 refine ax.enter 26 Tryz.func28 rfl Tryz.ntmps28 rfl ?_
 obtain⟨a0,c0,hv⟩:=hr.len
 subst hv
 refine TT.seq (.region (.U hT 1 rfl (.nil (.seq (.seq (.seq (.region (.U hT 1 rfl (.nil (.seq (.block (.loop (ι:=Nat) (fun j=>(j)<=ow.length/\∀o∈ow.take (j),o.key≠key) (fun j=>ow.length-(j)) (fun j=>[(0,.pointer (some ⟨b,0,none⟩)),(1,.string key),(5,.int .i64 ((j):Nat))]) (fun j=>hs) (0) ?_ (aa.cons rfl (aa.cons rfl (aa.cons rfl (aa.nil _)))) sl ?_))))))))))))
 . exact⟨Nat.zero_le _,by simp⟩
 rintro i ⟨hi,hn⟩
 show TT _ _ _ [(0,.pointer (some ⟨b,0,none⟩)),(1,.string key),(5,.int .i64 (i:Nat))] (hs)
 refine TT.seq (.seq (.region (.U hT 4 rfl (.load rfl rfl (Ld.slc hT rfl hb rfl) rfl (.U hT 2 rfl (.nil (.seq (.cond rfl (fun ew=> ?_) (fun ew=> ?_)))))))))
 .
  have ew:=of_decide_eq_true ew
  obtain⟨y,hy⟩:=nth (l:=ow) (i:=i) (by omega)
  refine TT.skip (.seq (.seq (.block (.seq (.region (.U hT 3 rfl (.load rfl rfl (Ld.slc hT rfl hb rfl) rfl (.U hT 1 rfl (.index hT rfl rfl rfl rfl hr (by omega) (by rw[Int.toNat_natCast];exact hy) rfl (fun NW zA=> ?_))))))))))
  obtain⟨TF,TG,rfl,Hr⟩:=zA.at (P:=Tryz.prog)
  refine OT.U hT 1 rfl (.load rfl rfl (Hr hT rfl rfl) rfl (.U hT 2 rfl (.nil (.seq (.cond rfl (fun mG=> ?_) (fun mG=> ?_))))))
  .
   have mG:=of_decide_eq_true mG
   refine TT.seq (.region (.U hT 2 rfl (.nil (.seq (.ret (.of (rs:=[.tmp 4]) [_] hs rfl (.tmp rfl .nil) sl ?_))))))
   try dsimp only[one]
   exact⟨_,rfl,.inl ⟨i,y,rfl,hy,mG⟩,rfl⟩
  .
   have mG:=of_decide_eq_false mG
   refine TT.skip (.blk (.seq (.region (.U hT 3 rfl (.nil (.loop (i+1) ?_ ?_ (aa.cons rfl (aa.cons rfl (aa.aD rfl (by(try dsimp only);exact(int_eq (by rw[wrap_i64 (by omega) (by omega)];omega))) (aa.nil _)))) sl))))))
   . exact⟨by omega,fun o ho=>by rw[jl hy]at ho;exact(List.mem_append.1 ho).elim (hn o) fun h=>by rw[List.mem_singleton.1 h];exact mG⟩
   . omega
 .
  have ew:=of_decide_eq_false ew
  obtain rfl:i=ow.length:=by omega
  rw[List.take_length]at hn
  refine TT.exit (.seq (.loop (.here (.seq (.seq (.region (.U hT 1 rfl (.nil (.seq (.ret (.of (rs:=[.tmp 4]) [_] hs rfl (.tmp rfl .nil) sl ?_)))))))))))
  try dsimp only[one]
  exact⟨_,rfl,.inr ⟨rfl,hn⟩,rfl⟩
set_option maxHeartbeats 2000000 in
set_option maxRecDepth 100000 in
theorem jN{b:Nat}{wd wo:Value}{hs:List Chunk}(hb:Has hs b (blk [wd,wo] 65 (0,0))){d:List bE}{ow:List aP}{t:Int}(Vm:Row bL 4 hs wd d)(OA:Row dr 5 hs wo ow)(hd:rising (cI d))(yj:d.length<=50000)(FM:ow.length<=50000):ax Tryz.prog 32 [.pointer (some ⟨b,0,none⟩),.int .i64 t] hs (fun v' hs'=>∃K,hs'=K::hs/\Row bL 4 (K::hs) v' (ke d ow t)):=by
 refine ax.enter 53 Tryz.func32 rfl Tryz.ntmps32 rfl ?_
 obtain⟨a0,c0,hv⟩:=OA.len
 subst hv
 refine TT.seq (.region (.U hT 1 rfl (.nil (.seq (.seq (.region (.U hT 3 rfl (.load rfl rfl (Ld.slc hT rfl hb rfl) rfl (.U hT 1 rfl (.nil (.seq (.seq (.seq (.region (.U hT 1 rfl (.nil (.seq (.block (.loop (ι:=Nat×Value×Chunk) (fun j=>(j.1)<=ow.length/\Row bL 4 ((j.2.2)::hs) (j.2.1) (ke d (ow.take (j.1)) t)) (fun j=>ow.length-(j.1)) (fun j=>[(0,.pointer (some ⟨b,0,none⟩)),(1,.int .i64 t),(5,(j.2.1)),(6,.int .i64 ((j.1):Nat))]) (fun j=>(j.2.2)::hs) (0,wd,[]) ?_ (aa.cons rfl (aa.cons rfl (aa.cons rfl (aa.cons rfl (aa.nil _))))) (.empty sl) ?_)))))))))))))))))))
 . dsimp only
   exact⟨Nat.zero_le _,Vm.there⟩
 rintro⟨i,w,K⟩ hI
 dsimp only at hI
 obtain⟨hi,hR⟩:=hI
 show TT _ _ _ [(0,.pointer (some ⟨b,0,none⟩)),(1,.int .i64 t),(5,w),(6,.int .i64 (i:Nat))] (K::hs)
 refine TT.seq (.seq (.region (.U hT 4 rfl (.load rfl rfl (Ld.slc hT rfl (.there hb) rfl) rfl (.U hT 2 rfl (.nil (.seq (.cond rfl (fun fC=> ?_) (fun fC=> ?_)))))))))
 .
  have fC:=of_decide_eq_true fC
  obtain⟨y,hy⟩:=nth (l:=ow) (i:=i) (by omega)
  refine TT.skip (.seq (.seq (.block (.seq (.region (.U hT 3 rfl (.split 22 rfl (fun Je=> ?_) (fun Je=> ?_))))))))
  .
   have Je:=of_decide_eq_true Je
   refine OT.U hT 3 rfl (.load rfl rfl (Ld.slc hT rfl (.there hb) rfl) rfl (.U hT 1 rfl (.index hT rfl rfl rfl rfl OA.there (by omega) (by rw[Int.toNat_natCast];exact hy) rfl (fun Iy ri=> ?_))))
   obtain⟨TH,TI,rfl,Hs⟩:=ri.at (P:=Tryz.prog)
   refine OT.U hT 1 rfl (.load rfl rfl (Hs hT rfl rfl) rfl (.U hT 3 rfl (.nil (.seq (.cond rfl (fun nF=> ?_) (fun nF=> ?_))))))
   .
    have nF:=beq_iff_eq.1 nF
    refine TT.draw (hs) mixed (.takes (fuel:=10) hT [0,1,2,3,5,9,10,11,13] kr kr rfl (.take (fuel:=9) hT 4 rfl rfl kr kr kr rfl (.load rfl (Ld.slc hT rfl hb rfl)) rfl (.take (fuel:=8) hT 12 rfl rfl kr kr kr rfl (.load rfl (Ld.slc hT rfl hb rfl)) rfl (.index (fuel:=7) hT 6 rfl kr kr kr rfl rfl rfl rfl OA (by omega) (by rw[Int.toNat_natCast];exact hy) rfl (fun Nv zl=> ?_)))))
    obtain⟨TJ,TK,rfl,Hu⟩:=zl.at (P:=Tryz.prog)
    refine AT.takes (fuel:=6) hT [7] kr kr rfl (.take (fuel:=5) hT 8 rfl rfl kr kr kr rfl (.load rfl (Hu hT rfl rfl)) rfl (.index (fuel:=4) hT 14 rfl kr kr kr rfl rfl rfl rfl OA (by omega) (by rw[Int.toNat_natCast];exact hy) rfl (fun TL Ez=> ?_)))
    obtain⟨TM,TN,rfl,OE⟩:=Ez.at (P:=Tryz.prog)
    refine AT.takes (fuel:=3) hT [15] kr kr rfl (.take (fuel:=2) hT 16 rfl rfl kr kr kr rfl (.load rfl (Ez.uC hT rfl 2 (vs:=bA y.val) rfl (by decide))) rfl (.op (fuel:=1) 17 kr rfl sl (.call Tryz.call36 rfl rfl rfl rfl (pn (k:=y.key) (x:=y.val) hR (by have:=xW (t:=t) (ow:=ow) hd i;omega)) ?_)))
    rintro yM Iz ⟨K2,rfl,yN⟩
    refine OT.nil (.any (.takes (fuel:=0) hT [18] kr kr rfl (.done kr sl (.blk (.seq (.region (.U hT 3 rfl (.nil (.loop (i+1,yM,K2) ?_ ?_ (aa.cons rfl (aa.cons rfl (aa.cons rfl (aa.aD rfl (by(try dsimp only);exact(int_eq (by rw[wrap_i64 (by omega) (by omega)];omega))) (aa.nil _))))) sl)))))))))
    . dsimp only
      exact⟨by omega,by rw[o8 hy];unfold cX;rw[if_pos ⟨Je,nF⟩];exact yN.row⟩
    . dsimp only
      omega
   .
    have nF:=beq_eq_false_iff_ne.1 nF
    refine TT.skip (.blk (.seq (.region (.U hT 3 rfl (.nil (.loop (i+1,w,K) ?_ ?_ (aa.cons rfl (aa.cons rfl (aa.cons rfl (aa.aD rfl (by(try dsimp only);exact(int_eq (by rw[wrap_i64 (by omega) (by omega)];omega))) (aa.nil _))))) sl))))))
    . dsimp only
      exact⟨by omega,by rw[o8 hy];unfold cX;rw[if_neg (fun h=>nF h.2)];exact hR⟩
    . dsimp only
      omega
  .
   have Je:=of_decide_eq_false Je
   refine OT.U hT 11 rfl (.nil (.seq (.cond_false rfl (.skip (.blk (.seq (.region (.U hT 3 rfl (.nil (.loop (i+1,w,K) ?_ ?_ (aa.cons rfl (aa.cons rfl (aa.cons rfl (aa.aD rfl (by(try dsimp only);exact(int_eq (by rw[wrap_i64 (by omega) (by omega)];omega))) (aa.nil _))))) sl))))))))))
   . dsimp only
     exact⟨by omega,by rw[o8 hy];unfold cX;rw[if_neg (fun h=>Je h.1)];exact hR⟩
   . dsimp only
     omega
 .
  have fC:=of_decide_eq_false fC
  obtain rfl:i=ow.length:=by omega
  rw[List.take_length]at hR
  refine TT.exit (.seq (.loop (.here (.seq (.seq (.region (.U hT 2 rfl (.nil (.seq (.ret (.of (rs:=[.tmp 4]) [_] (K::hs) rfl (.tmp rfl .nil) sl ?_)))))))))))
  try dsimp only[one]
  exact⟨K,rfl,hR⟩
set_option maxHeartbeats 4000000 in
set_option maxRecDepth 100000 in
theorem m7{b:Nat}{wd wo:Value}{KD KO:Chunk}{d:List bE}{ow:List aP}{hs:List Chunk}(qj:Own bL 4 60 wd d KD)(gN:Own dr 5 70 wo ow KO){t:Int}{cm:Bool}(hd:rising (cI d))(yj:d.length<=50000)(FM:ow.length<=50000):ax Tryz.prog 34 [.pointer (some ⟨b,0,none⟩),.int .i64 t,.bool cm] ([(b,blk [wd,wo] 65 (0,0))]::KD::KO::hs) (fun v' hs'=>∃wd' Md Sj Me,hs'=[(b,blk [wd',Md] 65 (0,0))]::Sj::Me::hs/\v'= .int .i64 (kF ow t:Nat)/\Own bL 4 60 wd' (fB d ow t cm) Sj/\Own dr 5 70 Md (kE ow t) Me):=by
 refine ax.enter 59 Tryz.func34 rfl Tryz.ntmps34 rfl ?_
 obtain⟨a0,c0,hv⟩:=(gN.row (hs:=[])).len
 subst hv
 refine TT.seq (.region (.U hT 1 rfl (.nil (.seq (.seq (.region (.U hT 1 rfl (.nil (.seq (.seq (.region (.U hT 1 rfl (.nil (.seq (.seq (.seq (.region (.U hT 1 rfl (.nil (.seq (.block (.loop (ι:=Nat×Value×Chunk×Value×Chunk) (fun j=>(j.1)<=ow.length/\Own dr 5 70 (j.2.1) (kE (ow.take (j.1)) t) (j.2.2.1)/\Own bL 4 60 (j.2.2.2.1) (fB d (ow.take (j.1)) t cm) (j.2.2.2.2)) (fun j=>ow.length-(j.1)) (fun j=>[(0,.pointer (some ⟨b,0,none⟩)),(1,.int .i64 t),(2,.bool cm),(7,(j.2.1)),(8,.int .i64 (kF (ow.take (j.1)) t:Nat)),(9,.int .i64 ((j.1):Nat))]) (fun j=>[(b,blk [(j.2.2.2.1),.slice a0 ow.length c0] 65 (0,0))]::(j.2.2.1)::(j.2.2.2.2)::KO::hs) (0,.slice none 0 0,[],wd,KD) ?_ (aa.cons rfl (aa.cons rfl (aa.cons rfl (aa.cons rfl (aa.cons rfl (aa.cons rfl (aa.nil _))))))) sl ?_))))))))))))))))))))))
 . dsimp only
   exact⟨Nat.zero_le _,Own.nil,qj⟩
 rintro⟨i,wl,KL,w2,D2⟩ hI
 dsimp only at hI
 obtain⟨hi,Dh,sK⟩:=hI
 show TT _ _ _ [(0,.pointer (some ⟨b,0,none⟩)),(1,.int .i64 t),(2,.bool cm),(7,wl),(8,.int .i64 (kF (ow.take i) t:Nat)),(9,.int .i64 (i:Nat))] ([(b,blk [w2,.slice a0 ow.length c0] 65 (0,0))]::KL::D2::KO::hs)
 refine TT.seq (.seq (.region (.U hT 4 rfl (.load rfl rfl (Ld.slc hT rfl hz rfl) rfl ?_))))
 refine OT.U hT 2 rfl (.nil (.seq (.cond rfl (fun fC=> ?_) (fun fC=> ?_))))
 .
  have fC:=of_decide_eq_true fC
  obtain⟨y,hy⟩:=nth (l:=ow) (i:=i) (by omega)
  have yl:(ow.take i).length<=ow.length:=by rw[List.length_take];omega
  have Xm:=lY (ow.take i) t
  have Xn:=Cy (ow.take i) t
  have Xo:=vf (ow:=ow) (t:=t) (cm:=cm) hd i
  refine TT.skip (.seq (.seq (.block (.seq (.region (.U hT 3 rfl (.load rfl rfl (Ld.slc hT rfl hz rfl) rfl ?_)))))))
  refine OT.U hT 1 rfl (.index hT rfl rfl rfl rfl gN.row.there.there.there (by omega) (by rw[Int.toNat_natCast];exact hy) rfl (fun TO Le=> ?_))
  refine OT.load rfl rfl (Le.cy hT rfl) rfl (.alloc Tryz.zeroValue70 rfl rfl (fun qK=> ?_))
  refine OT.ag hT rfl rfl rfl rfl pl rfl rfl rfl (.inl (Nat.le_refl _)) ?_
  refine OT.nil (.seq (.seq (.seq (.region (.U hT 3 rfl (.split 29 rfl (fun FL=> ?_) (fun FL=> ?_)))))))
  .
   have FL:t>0:=of_decide_eq_true FL
   refine OT.U hT 1 rfl (.load rfl rfl (Ld.one hT rfl hz rfl) rfl ?_)
   refine OT.U hT 3 rfl (.nil (.seq (.cond rfl (fun mj=> ?_) (fun mj=> ?_))))
   .
    have mj:y.aV≠t:=by simpa using mj
    have yz:¬eV t y.aV=true:=by unfold eV;rw[decide_eq_true_eq];omega
    refine TT.seq (.region (.U hT 1 rfl (.load rfl rfl (Ld.af hT rfl hz rfl) rfl ?_)))
    refine OT.buildSlice (enc:=dr) (xs:=[y]) (ij:=[.tmp 36]) nt rfl rfl rfl rfl rfl (by simp[Value.cells];rfl) (fun _ _=>rfl) rfl (by decide) rfl (fun Jy QH D3=> ?_)
    refine OT.append hT nt rfl rfl rfl rfl pl Dh (D3.row) (cO (fun _=>rfl) _) (by simp only[List.length_singleton];omega) rfl (fun sJ Dw qT=> ?_)
    refine OT.U hT 1 rfl (.nil (.seq (.exit (.seq (.here (.seq (.region (.U hT 3 rfl (.nil (.loop (i+1,sJ,Dw,w2,D2) ?_ ?_ (aa.cons rfl (aa.cons rfl (aa.cons rfl (aa.cons rfl (aa.aD rfl (by(try dsimp only);exact(by rw[gZ hy,if_neg yz])) (aa.aD rfl (by(try dsimp only);exact(int_eq (by rw[wrap_i64 (by omega) (by omega)];omega))) (aa.nil _))))))) sl))))))))))
    . dsimp only
      exact⟨by omega,by rw[gY hy,if_neg yz];exact qT,by rw[g_ hy,if_neg (fun h=>yz h.1)];exact sK⟩
    . dsimp only
      omega
   .
    have mj:y.aV=t:=by simpa using mj
    have yz:eV t y.aV=true:=by unfold eV;exact decide_eq_true (.inr mj)
    refine TT.skip (.seq (.seq (.region (.U hT 3 rfl (.nil (.seq (.seq (.region (.U hT 1 rfl (.nil (.seq (.cond rfl (fun qD=> ?_) (fun qD=> ?_)))))))))))))
    .
     refine TT.jT [12] (([(qK,blk (dr y) 70 (0,0))]::[(b,blk [w2,.slice a0 ow.length c0] 65 (0,0))]::hs)) mixed ?_
     refine AT.takes (fuel:=7) hT [0,1,2,3,5,7] kr kr rfl (.take (fuel:=6) hT 4 rfl rfl kr kr kr rfl (.load rfl (Ld.slc hT rfl hz rfl)) rfl ?_)
     refine AT.take (fuel:=5) hT 6 rfl rfl kr kr kr rfl (.load rfl (Ld.one hT rfl hz rfl)) rfl ?_
     refine AT.take (fuel:=4) hT 8 rfl rfl kr kr kr rfl (.load rfl (Ld.struct hT rfl hz rfl rfl)) rfl ?_
     refine AT.op (fuel:=3) 9 kr rfl sl (.call Tryz.call36 rfl rfl rfl rfl (pn (k:=y.key) (x:=y.val) sK.row.there.there.there (by omega)) ?_)
     rintro yM Iz ⟨K2,rfl,yN⟩
     obtain⟨a9,c9,vj⟩:=(yN.row (hs:=[])).len
     subst vj
     refine OT.nil (.any (.takes (fuel:=1) hT [10,11] kr kr rfl (.op (fuel:=0) 12 kr rfl sl (.store hT rfl rfl rfl rfl pl rfl (Nat.le_of_ble_eq_true rfl) rfl (.inl (Nat.le_refl _)) rfl ?_))))
     refine OT.nil (.any (.iQ kr kr (.blk (.seq (.region (.U hT 3 rfl (.nil (.loop (i+1,wl,KL,_,K2) ?_ ?_ (aa.cons rfl (aa.cons rfl (aa.cons rfl (aa.cons rfl (aa.aD rfl (by(try dsimp only);exact(int_eq (by rw[gZ hy,if_pos yz,wrap_i64 (by omega) (by omega)];omega))) (aa.aD rfl (by(try dsimp only);exact(int_eq (by rw[wrap_i64 (by omega) (by omega)];omega))) (aa.nil _))))))) sl))))))))
     . dsimp only
       exact⟨by omega,by rw[gY hy,if_pos yz];exact Dh,by rw[g_ hy,if_pos ⟨yz,qD⟩];exact yN⟩
     . dsimp only
       omega
    .
     refine TT.skip (.blk (.seq (.region (.U hT 3 rfl (.nil (.loop (i+1,wl,KL,w2,D2) ?_ ?_ (aa.cons rfl (aa.cons rfl (aa.cons rfl (aa.cons rfl (aa.aD rfl (by(try dsimp only);exact(int_eq (by rw[gZ hy,if_pos yz,wrap_i64 (by omega) (by omega)];omega))) (aa.aD rfl (by(try dsimp only);exact(int_eq (by rw[wrap_i64 (by omega) (by omega)];omega))) (aa.nil _))))))) sl))))))
     . dsimp only
       exact⟨by omega,by rw[gY hy,if_pos yz];exact Dh,by rw[g_ hy,if_neg (fun h=>by rw[qD]at h;cases h.2)];exact sK⟩
     . dsimp only
       omega
  .
   have FL:=of_decide_eq_false FL
   have yz:eV t y.aV=true:=by unfold eV;exact decide_eq_true (.inl FL)
   refine OT.U hT 5 rfl (.nil (.seq (.cond_false rfl (.skip (.seq (.seq (.region (.U hT 3 rfl (.nil (.seq (.seq (.region (.U hT 1 rfl (.nil (.seq (.cond rfl (fun qD=> ?_) (fun qD=> ?_)))))))))))))))))
   .
    refine TT.jT [12] (([(qK,blk (dr y) 70 (0,0))]::[(b,blk [w2,.slice a0 ow.length c0] 65 (0,0))]::hs)) mixed ?_
    refine AT.takes (fuel:=7) hT [0,1,2,3,5,7] kr kr rfl (.take (fuel:=6) hT 4 rfl rfl kr kr kr rfl (.load rfl (Ld.slc hT rfl hz rfl)) rfl ?_)
    refine AT.take (fuel:=5) hT 6 rfl rfl kr kr kr rfl (.load rfl (Ld.one hT rfl hz rfl)) rfl ?_
    refine AT.take (fuel:=4) hT 8 rfl rfl kr kr kr rfl (.load rfl (Ld.struct hT rfl hz rfl rfl)) rfl ?_
    refine AT.op (fuel:=3) 9 kr rfl sl (.call Tryz.call36 rfl rfl rfl rfl (pn (k:=y.key) (x:=y.val) sK.row.there.there.there (by omega)) ?_)
    rintro yM Iz ⟨K2,rfl,yN⟩
    obtain⟨a9,c9,vj⟩:=(yN.row (hs:=[])).len
    subst vj
    refine OT.nil (.any (.takes (fuel:=1) hT [10,11] kr kr rfl (.op (fuel:=0) 12 kr rfl sl (.store hT rfl rfl rfl rfl pl rfl (Nat.le_of_ble_eq_true rfl) rfl (.inl (Nat.le_refl _)) rfl ?_))))
    refine OT.nil (.any (.iQ kr kr (.blk (.seq (.region (.U hT 3 rfl (.nil (.loop (i+1,wl,KL,_,K2) ?_ ?_ (aa.cons rfl (aa.cons rfl (aa.cons rfl (aa.cons rfl (aa.aD rfl (by(try dsimp only);exact(int_eq (by rw[gZ hy,if_pos yz,wrap_i64 (by omega) (by omega)];omega))) (aa.aD rfl (by(try dsimp only);exact(int_eq (by rw[wrap_i64 (by omega) (by omega)];omega))) (aa.nil _))))))) sl))))))))
    . dsimp only
      exact⟨by omega,by rw[gY hy,if_pos yz];exact Dh,by rw[g_ hy,if_pos ⟨yz,qD⟩];exact yN⟩
    . dsimp only
      omega
   .
    refine TT.skip (.blk (.seq (.region (.U hT 3 rfl (.nil (.loop (i+1,wl,KL,w2,D2) ?_ ?_ (aa.cons rfl (aa.cons rfl (aa.cons rfl (aa.cons rfl (aa.aD rfl (by(try dsimp only);exact(int_eq (by rw[gZ hy,if_pos yz,wrap_i64 (by omega) (by omega)];omega))) (aa.aD rfl (by(try dsimp only);exact(int_eq (by rw[wrap_i64 (by omega) (by omega)];omega))) (aa.nil _))))))) sl))))))
    . dsimp only
      exact⟨by omega,by rw[gY hy,if_pos yz];exact Dh,by rw[g_ hy,if_neg (fun h=>by rw[qD]at h;cases h.2)];exact sK⟩
    . dsimp only
      omega
 .
  have fC:=of_decide_eq_false fC
  obtain rfl:i=ow.length:=by omega
  rw[List.take_length]at Dh sK
  obtain⟨aw,cw,Vn⟩:=(Dh.row (hs:=[])).len
  subst Vn
  refine TT.exit (.seq (.loop (.here (.seq (.seq (.region (.U hT 4 rfl (.store hT rfl rfl rfl rfl pl rfl (Nat.le_of_ble_eq_true rfl) rfl (.inl (Nat.le_refl _)) rfl ?_))))))))
  refine OT.nil (.seq (.seq (.region (.U hT 2 rfl (.nil (.seq (.ret (.of (rs:=[.tmp 6]) [_] ([(b,blk [w2,_] 65 (0,0))]::D2::KL::hs) rfl (.tmp rfl .nil) sl ?_))))))))
  try dsimp only[one]
  exact⟨w2,_,D2,KL,rfl,congrArg (fun l=>Value.int .i64 ((kF l t:Nat):Int)) List.take_length,sK,Dh⟩
set_option maxHeartbeats 4000000 in
set_option maxRecDepth 100000 in
theorem ov{b:Nat}{wd wo:Value}{KD KO:Chunk}{d:List bE}{ow:List aP}{hs:List Chunk}(qj:Own bL 4 60 wd d KD)(gN:Own dr 5 70 wo ow KO){x:IQ}(yj:d.length<=50000)(FM:ow.length<=50000)(hn:(ow.map aP.key).Nodup):ax Tryz.prog 31 [.pointer (some ⟨b,0,none⟩),.agg ⟨cv x⟩] ([(b,blk [wd,wo] 65 (0,0))]::KD::KO::hs) (fun v' hs'=>∃Md Me,hs'=[(b,blk [wd,Md] 65 (0,0))]::KD::Me::hs/\Own dr 5 70 Md (cY d ow ⟨x.aV,x.key,x.val⟩) Me):=by
 refine ax.enter 76 Tryz.func31 rfl Tryz.ntmps31 rfl ?_
 obtain⟨a0,c0,hv⟩:=(gN.row (hs:=[])).len
 subst hv
 have hcap:=(gN.row (hs:=[])).fD
 refine TT.seq (.region (.box rfl rfl rfl (fun jt=> ?_)))
 refine OT.nil (.seq (.seq (.region (.U hT 2 rfl (.load rfl rfl (Ld.one hT rfl hz rfl) rfl ?_)))))
 refine OT.call Tryz.call28 rfl rfl rfl rfl (ou (.there Has.one) (key:=x.key) gN.row.there.there.there (by omega)) ?_
 rintro oG jX ⟨z,rfl,uq,rfl⟩
 refine OT.U hT 1 rfl (.nil (.seq (.seq (.draw (([(jt,blk (cv x) 56 (0,0))]::[(b,blk [wd,.slice a0 ow.length c0] 65 (0,0))]::KD::hs)) mixed ?_))))
 refine AT.takes (fuel:=9) hT [0,1,2,4] kr kr rfl (.take (fuel:=8) hT 3 rfl rfl kr kr kr rfl (.load rfl (Ld.slc hT rfl hz rfl)) rfl ?_)
 refine AT.take (fuel:=7) hT 5 rfl rfl kr kr kr rfl (.load rfl (Ld.one hT rfl hz rfl)) rfl ?_
 refine AT.all (fuel:=6) [6,10] kr (by decide) sl ?_
 intro i hi
 simp only[List.mem_cons,List.not_mem_nil,or_false]at hi
 rcases hi with rfl|rfl
 .
  refine⟨_,rfl,?_⟩
  refine OT.call Tryz.call21 rfl rfl rfl rfl (jm (k:=x.key) (Row.mono (qj.row (hs:=hs)) fun b o hb=>Has.ic sl hb) (by omega)) ?_
  rintro Dm AG ⟨rfl,rfl⟩
  refine OT.nil (.any (.takes (fuel:=3) hT [7,8,9] kr kr rfl (.op (fuel:=2) 10 kr rfl sl (.alloc Tryz.zeroValue36 rfl rfl (fun eM=> ?_)))))
  refine OT.nil (.any (.op (fuel:=1) 11 kr rfl sl (.ag hT rfl rfl rfl rfl pl rfl rfl rfl (.inl (Nat.le_refl _)) ?_)))
  refine OT.nil (.any (.takes (fuel:=0) hT [12] kr kr rfl (.done kr sl (.seq (.seq (.seq (.region (.U hT 2 rfl (.load rfl rfl (Ld.one hT rfl hz rfl) rfl ?_)))))))))
  refine OT.U hT 2 rfl (.split 25 rfl (fun sx=> ?_) (fun sx=> ?_))
  .
   have sx:x.val.kind=0:=by simpa using sx
   refine OT.U hT 3 rfl (.nil (.seq (.cond rfl (fun ko=> ?_) (fun ko=> ?_))))
   .
    have ko:bO d x.key=none:=by simpa using ko
    refine TT.seq (.seq (.region (.U hT 2 rfl (.nil (.seq (.cond rfl (fun iZ=> ?_) (fun iZ=> ?_)))))))
    .
     have iZ:=of_decide_eq_true iZ
     obtain⟨i,o,rfl,hi,hk⟩:=uq.resolve_right (fun h=>by have:=h.1;omega)
     have hil:=(List.getElem?_eq_some_iff.1 hi).1
     refine TT.jT [18] (([(b,blk [wd,.slice a0 ow.length c0] 65 (0,0))]::KO::hs)) mixed ?_
     refine AT.takes (fuel:=9) hT [0,1,2,3,5,8,9,10,12,13] kr kr rfl (.take (fuel:=8) hT 4 rfl rfl kr kr kr rfl (.load rfl (Ld.slc hT rfl hz rfl)) rfl ?_)
     refine AT.take (fuel:=7) hT 11 rfl rfl kr kr kr rfl (.load rfl (Ld.slc hT rfl hz rfl)) rfl ?_
     refine AT.take (fuel:=6) hT 6 rfl rfl kr kr kr rfl (Fl.bK 0 i hT rfl rfl rfl rfl (.inl ⟨rfl,rfl⟩) (.inr ⟨_,rfl⟩) (by omega) (by omega)) rfl (.take (fuel:=5) hT 14 rfl rfl kr kr kr rfl (Fl.bK (i+1) ow.length hT rfl rfl rfl rfl (.inr ⟨.i64,congrArg some (int_eq (by rw[wrap_i64 (by omega) (by omega)];omega))⟩) (.inl ⟨rfl,rfl⟩) (by omega) (by omega)) rfl ?_)
     refine AT.op (fuel:=4) 7 kr rfl sl (.iG ?_)
     refine OT.append hT nt rfl rfl rfl rfl pl Own.nil (Row.mono (kL (gN.row (hs:=hs)) (M:=i) (by omega)) fun b o hb=>Has.ic sl hb) (cO (fun _=>rfl) _) (by simp only[List.length_take,List.length_nil];omega) rfl (fun sJ Dw qT=> ?_)
     refine OT.nil (.any (.op (fuel:=3) 15 kr rfl sl ?_))
     refine OT.append hT nt rfl rfl rfl rfl pl qT (Row.mono (fY (gN.row (hs:=hs)) (L:=i+1) (by omega)) fun b o hb=>Has.ic sl hb) (cO (fun _=>rfl) _) (by simp only[List.length_take,List.length_drop,List.length_append,List.length_nil];omega) rfl (fun Gh Dv pO=> ?_)
     obtain⟨a9,c9,vj⟩:=(pO.row (hs:=[])).len
     subst vj
     refine OT.nil (.any (.takes (fuel:=1) hT [16,17] kr kr rfl (.op (fuel:=0) 18 kr rfl sl (.store hT rfl rfl rfl rfl pl rfl (Nat.le_of_ble_eq_true rfl) rfl (.inl (Nat.le_refl _)) rfl ?_))))
     refine OT.nil (.any (.iQ kr kr (.seq (.ret (.of (rs:=[]) [] ([(b,blk [wd,_] 65 (0,0))]::KD::Dv::hs) rfl .nil sl ?_)))))
     try dsimp only[one]
     exact⟨_,_,rfl,by rw[jI sx ko,Bk hn hi hk];exact pO⟩
    .
     have iZ:=of_decide_eq_false iZ
     obtain⟨rfl,hnk⟩:=uq.resolve_left (fun⟨i,o,h,_⟩=>by omega)
     refine TT.skip (.seq (.ret (.of (rs:=[]) [] ([(b,blk [wd,.slice a0 ow.length c0] 65 (0,0))]::KD::KO::hs) rfl .nil sl ?_)))
     try dsimp only[one]
     exact⟨_,_,rfl,by rw[jI sx ko,xl hnk];exact gN⟩
   .
    have ko:bO d x.key≠none:=fun h=>by rw[h]at ko;simp at ko
    have hnc:¬(x.val.kind=0/\bO d x.key=none):=fun h=>ko h.2
    refine TT.skip (.seq (.seq (.seq (.region (.U hT 2 rfl (.nil (.seq (.cond rfl (fun gr=> ?_) (fun gr=> ?_)))))))))
    .
     have gr:=of_decide_eq_true gr
     obtain⟨i,o,rfl,hi,hk⟩:=uq.resolve_right (fun h=>by have:=h.1;omega)
     have hil:=(List.getElem?_eq_some_iff.1 hi).1
     obtain⟨ob,oo,oc,_,_,FU,_⟩:=gN.over (show 0<ow.length by omega)
     injection FU with e1 _ e3
     subst e1 e3
     refine TT.seq (.draw (([(jt,blk (cv x) 56 (0,0))]::[(b,blk [wd,.slice (some ⟨ob,oo,none⟩) ow.length c0] 65 (0,0))]::hs)) mixed ?_)
     refine AT.takes (fuel:=5) hT [0,1,2,4,5] kr kr rfl (.take (fuel:=4) hT 3 rfl rfl kr kr kr rfl (.load rfl (Ld.slc hT rfl hz rfl)) rfl ?_)
     refine AT.take (fuel:=3) hT 6 rfl rfl kr kr kr rfl (.load rfl (Ld.struct hT rfl hz rfl rfl)) rfl ?_
     refine AT.op (fuel:=2) 7 kr rfl sl (.fH hT rfl rfl rfl rfl (by omega) (by omega) rfl (.nil (.any (.takes (fuel:=1) hT [8] kr kr rfl (.op (fuel:=0) 9 kr rfl sl (.fe i 2 hT rfl rfl rfl rfl pl gN hi (by omega) rfl (by decide) rfl (z':={o with val:=x.val}) (by rfl) (fun Jf yO=> ?_)))))))
     refine OT.nil (.any (.done kr sl (.seq (.ret (.of (rs:=[]) [] ([(b,blk [wd,.slice (some ⟨ob,oo,none⟩) ow.length c0] 65 (0,0))]::KD::Jf::hs) rfl .nil sl ?_)))))
     try dsimp only[one]
     exact⟨_,_,rfl,by rw[jJ hnc (List.mem_of_getElem? hi) hk,qx hn hi hk];exact yO⟩
    .
     have gr:=of_decide_eq_false gr
     obtain⟨rfl,hnk⟩:=uq.resolve_left (fun⟨i,o,h,_⟩=>by omega)
     refine TT.skip (.seq (.jT [16] (([(jt,blk (cv x) 56 (0,0))]::[(b,blk [wd,.slice a0 ow.length c0] 65 (0,0))]::hs)) mixed ?_))
     refine AT.takes (fuel:=10) hT [0,1,2,3,5,7,9] kr kr rfl (.take (fuel:=9) hT 4 rfl rfl kr kr kr rfl (.load rfl (Ld.slc hT rfl hz rfl)) rfl ?_)
     refine AT.take (fuel:=8) hT 6 rfl rfl kr kr kr rfl (.load rfl (Ld.one hT rfl hz rfl)) rfl ?_
     refine AT.take (fuel:=7) hT 8 rfl rfl kr kr kr rfl (.load rfl (Ld.one hT rfl hz rfl)) rfl ?_
     refine AT.take (fuel:=6) hT 10 rfl rfl kr kr kr rfl (.load rfl (Ld.struct hT rfl hz rfl rfl)) rfl ?_
     refine AT.take (fuel:=5) hT 11 rfl rfl kr kr kr rfl (fk (cs:=dr ⟨x.aV,x.key,x.val⟩) hT rfl Tryz.zeroValue70 rfl rfl) rfl (.op (fuel:=4) 12 kr rfl sl ?_)
     refine OT.buildSlice (enc:=dr) (xs:=[(⟨x.aV,x.key,x.val⟩:aP)]) (ij:=[.tmp 71]) nt rfl rfl rfl rfl rfl (by simp[Value.cells];rfl) (fun _ _=>rfl) rfl (by decide) rfl (fun BJ JU qU=> ?_)
     refine OT.nil (.any (.op (fuel:=3) 13 kr rfl sl ?_))
     refine OT.append hT nt rfl rfl rfl rfl pl gN (qU.row) (cO (fun _=>rfl) _) (by simp only[List.length_singleton];omega) rfl (fun Dz yP kI=> ?_)
     obtain⟨a9,c9,vj⟩:=(kI.row (hs:=[])).len
     subst vj
     refine OT.nil (.any (.takes (fuel:=1) hT [14,15] kr kr rfl (.op (fuel:=0) 16 kr rfl sl (.store hT rfl rfl rfl rfl pl rfl (Nat.le_of_ble_eq_true rfl) rfl (.inl (Nat.le_refl _)) rfl ?_))))
     refine OT.nil (.any (.iQ kr kr (.of (rs:=[]) [] ([(b,blk [wd,_] 65 (0,0))]::KD::yP::hs) rfl .nil sl ?_)))
     try dsimp only[one]
     exact⟨_,_,rfl,by rw[jK hnc hnk];exact kI⟩
  .
   have sx:x.val.kind≠0:=by simpa using sx
   have hnc:¬(x.val.kind=0/\bO d x.key=none):=fun h=>sx h.1
   refine OT.U hT 3 rfl (.nil (.seq (.cond_false rfl (.skip (.seq (.seq (.seq (.region (.U hT 2 rfl (.nil (.seq (.cond rfl (fun gr=> ?_) (fun gr=> ?_)))))))))))))
   .
    have gr:=of_decide_eq_true gr
    obtain⟨i,o,rfl,hi,hk⟩:=uq.resolve_right (fun h=>by have:=h.1;omega)
    have hil:=(List.getElem?_eq_some_iff.1 hi).1
    obtain⟨ob,oo,oc,_,_,FU,_⟩:=gN.over (show 0<ow.length by omega)
    injection FU with e1 _ e3
    subst e1 e3
    refine TT.seq (.draw (([(jt,blk (cv x) 56 (0,0))]::[(b,blk [wd,.slice (some ⟨ob,oo,none⟩) ow.length c0] 65 (0,0))]::hs)) mixed ?_)
    refine AT.takes (fuel:=5) hT [0,1,2,4,5] kr kr rfl (.take (fuel:=4) hT 3 rfl rfl kr kr kr rfl (.load rfl (Ld.slc hT rfl hz rfl)) rfl ?_)
    refine AT.take (fuel:=3) hT 6 rfl rfl kr kr kr rfl (.load rfl (Ld.struct hT rfl hz rfl rfl)) rfl ?_
    refine AT.op (fuel:=2) 7 kr rfl sl (.fH hT rfl rfl rfl rfl (by omega) (by omega) rfl (.nil (.any (.takes (fuel:=1) hT [8] kr kr rfl (.op (fuel:=0) 9 kr rfl sl (.fe i 2 hT rfl rfl rfl rfl pl gN hi (by omega) rfl (by decide) rfl (z':={o with val:=x.val}) (by rfl) (fun Jf yO=> ?_)))))))
    refine OT.nil (.any (.done kr sl (.seq (.ret (.of (rs:=[]) [] ([(b,blk [wd,.slice (some ⟨ob,oo,none⟩) ow.length c0] 65 (0,0))]::KD::Jf::hs) rfl .nil sl ?_)))))
    try dsimp only[one]
    exact⟨_,_,rfl,by rw[jJ hnc (List.mem_of_getElem? hi) hk,qx hn hi hk];exact yO⟩
   .
    have gr:=of_decide_eq_false gr
    obtain⟨rfl,hnk⟩:=uq.resolve_left (fun⟨i,o,h,_⟩=>by omega)
    refine TT.skip (.seq (.jT [16] (([(jt,blk (cv x) 56 (0,0))]::[(b,blk [wd,.slice a0 ow.length c0] 65 (0,0))]::hs)) mixed ?_))
    refine AT.takes (fuel:=10) hT [0,1,2,3,5,7,9] kr kr rfl (.take (fuel:=9) hT 4 rfl rfl kr kr kr rfl (.load rfl (Ld.slc hT rfl hz rfl)) rfl ?_)
    refine AT.take (fuel:=8) hT 6 rfl rfl kr kr kr rfl (.load rfl (Ld.one hT rfl hz rfl)) rfl ?_
    refine AT.take (fuel:=7) hT 8 rfl rfl kr kr kr rfl (.load rfl (Ld.one hT rfl hz rfl)) rfl ?_
    refine AT.take (fuel:=6) hT 10 rfl rfl kr kr kr rfl (.load rfl (Ld.struct hT rfl hz rfl rfl)) rfl ?_
    refine AT.take (fuel:=5) hT 11 rfl rfl kr kr kr rfl (fk (cs:=dr ⟨x.aV,x.key,x.val⟩) hT rfl Tryz.zeroValue70 rfl rfl) rfl (.op (fuel:=4) 12 kr rfl sl ?_)
    refine OT.buildSlice (enc:=dr) (xs:=[(⟨x.aV,x.key,x.val⟩:aP)]) (ij:=[.tmp 71]) nt rfl rfl rfl rfl rfl (by simp[Value.cells];rfl) (fun _ _=>rfl) rfl (by decide) rfl (fun BJ JU qU=> ?_)
    refine OT.nil (.any (.op (fuel:=3) 13 kr rfl sl ?_))
    refine OT.append hT nt rfl rfl rfl rfl pl gN (qU.row) (cO (fun _=>rfl) _) (by simp only[List.length_singleton];omega) rfl (fun Dz yP kI=> ?_)
    obtain⟨a9,c9,vj⟩:=(kI.row (hs:=[])).len
    subst vj
    refine OT.nil (.any (.takes (fuel:=1) hT [14,15] kr kr rfl (.op (fuel:=0) 16 kr rfl sl (.store hT rfl rfl rfl rfl pl rfl (Nat.le_of_ble_eq_true rfl) rfl (.inl (Nat.le_refl _)) rfl ?_))))
    refine OT.nil (.any (.iQ kr kr (.of (rs:=[]) [] ([(b,blk [wd,_] 65 (0,0))]::KD::yP::hs) rfl .nil sl ?_)))
    try dsimp only[one]
    exact⟨_,_,rfl,by rw[jK hnc hnk];exact kI⟩
 .
  refine⟨_,rfl,?_⟩
  refine OT.alloc Tryz.zeroValue36 rfl rfl (fun eM=> ?_)
  refine OT.nil (.any (.op (fuel:=5) 6 kr rfl sl (.call Tryz.call21 rfl rfl rfl rfl (jm (k:=x.key) (Row.mono (qj.row (hs:=hs)) fun b o hb=>Has.ic sl hb) (by omega)) ?_)))
  rintro Dm AG ⟨rfl,rfl⟩
  refine OT.nil (.any (.takes (fuel:=2) hT [7,8,9] kr kr rfl (.op (fuel:=1) 11 kr rfl sl (.ag hT rfl rfl rfl rfl pl rfl rfl rfl (.inl (Nat.le_refl _)) ?_))))
  refine OT.nil (.any (.takes (fuel:=0) hT [12] kr kr rfl (.done kr sl (.seq (.seq (.seq (.region (.U hT 2 rfl (.load rfl rfl (Ld.one hT rfl hz rfl) rfl ?_)))))))))
  refine OT.U hT 2 rfl (.split 25 rfl (fun sx=> ?_) (fun sx=> ?_))
  .
   have sx:x.val.kind=0:=by simpa using sx
   refine OT.U hT 3 rfl (.nil (.seq (.cond rfl (fun ko=> ?_) (fun ko=> ?_))))
   .
    have ko:bO d x.key=none:=by simpa using ko
    refine TT.seq (.seq (.region (.U hT 2 rfl (.nil (.seq (.cond rfl (fun iZ=> ?_) (fun iZ=> ?_)))))))
    .
     have iZ:=of_decide_eq_true iZ
     obtain⟨i,o,rfl,hi,hk⟩:=uq.resolve_right (fun h=>by have:=h.1;omega)
     have hil:=(List.getElem?_eq_some_iff.1 hi).1
     refine TT.jT [18] (([(b,blk [wd,.slice a0 ow.length c0] 65 (0,0))]::KO::hs)) mixed ?_
     refine AT.takes (fuel:=9) hT [0,1,2,3,5,8,9,10,12,13] kr kr rfl (.take (fuel:=8) hT 4 rfl rfl kr kr kr rfl (.load rfl (Ld.slc hT rfl hz rfl)) rfl ?_)
     refine AT.take (fuel:=7) hT 11 rfl rfl kr kr kr rfl (.load rfl (Ld.slc hT rfl hz rfl)) rfl ?_
     refine AT.take (fuel:=6) hT 6 rfl rfl kr kr kr rfl (Fl.bK 0 i hT rfl rfl rfl rfl (.inl ⟨rfl,rfl⟩) (.inr ⟨_,rfl⟩) (by omega) (by omega)) rfl (.take (fuel:=5) hT 14 rfl rfl kr kr kr rfl (Fl.bK (i+1) ow.length hT rfl rfl rfl rfl (.inr ⟨.i64,congrArg some (int_eq (by rw[wrap_i64 (by omega) (by omega)];omega))⟩) (.inl ⟨rfl,rfl⟩) (by omega) (by omega)) rfl ?_)
     refine AT.op (fuel:=4) 7 kr rfl sl (.iG ?_)
     refine OT.append hT nt rfl rfl rfl rfl pl Own.nil (Row.mono (kL (gN.row (hs:=hs)) (M:=i) (by omega)) fun b o hb=>Has.ic sl hb) (cO (fun _=>rfl) _) (by simp only[List.length_take,List.length_nil];omega) rfl (fun sJ Dw qT=> ?_)
     refine OT.nil (.any (.op (fuel:=3) 15 kr rfl sl ?_))
     refine OT.append hT nt rfl rfl rfl rfl pl qT (Row.mono (fY (gN.row (hs:=hs)) (L:=i+1) (by omega)) fun b o hb=>Has.ic sl hb) (cO (fun _=>rfl) _) (by simp only[List.length_take,List.length_drop,List.length_append,List.length_nil];omega) rfl (fun Gh Dv pO=> ?_)
     obtain⟨a9,c9,vj⟩:=(pO.row (hs:=[])).len
     subst vj
     refine OT.nil (.any (.takes (fuel:=1) hT [16,17] kr kr rfl (.op (fuel:=0) 18 kr rfl sl (.store hT rfl rfl rfl rfl pl rfl (Nat.le_of_ble_eq_true rfl) rfl (.inl (Nat.le_refl _)) rfl ?_))))
     refine OT.nil (.any (.iQ kr kr (.seq (.ret (.of (rs:=[]) [] ([(b,blk [wd,_] 65 (0,0))]::KD::Dv::hs) rfl .nil sl ?_)))))
     try dsimp only[one]
     exact⟨_,_,rfl,by rw[jI sx ko,Bk hn hi hk];exact pO⟩
    .
     have iZ:=of_decide_eq_false iZ
     obtain⟨rfl,hnk⟩:=uq.resolve_left (fun⟨i,o,h,_⟩=>by omega)
     refine TT.skip (.seq (.ret (.of (rs:=[]) [] ([(b,blk [wd,.slice a0 ow.length c0] 65 (0,0))]::KD::KO::hs) rfl .nil sl ?_)))
     try dsimp only[one]
     exact⟨_,_,rfl,by rw[jI sx ko,xl hnk];exact gN⟩
   .
    have ko:bO d x.key≠none:=fun h=>by rw[h]at ko;simp at ko
    have hnc:¬(x.val.kind=0/\bO d x.key=none):=fun h=>ko h.2
    refine TT.skip (.seq (.seq (.seq (.region (.U hT 2 rfl (.nil (.seq (.cond rfl (fun gr=> ?_) (fun gr=> ?_)))))))))
    .
     have gr:=of_decide_eq_true gr
     obtain⟨i,o,rfl,hi,hk⟩:=uq.resolve_right (fun h=>by have:=h.1;omega)
     have hil:=(List.getElem?_eq_some_iff.1 hi).1
     obtain⟨ob,oo,oc,_,_,FU,_⟩:=gN.over (show 0<ow.length by omega)
     injection FU with e1 _ e3
     subst e1 e3
     refine TT.seq (.draw (([(jt,blk (cv x) 56 (0,0))]::[(b,blk [wd,.slice (some ⟨ob,oo,none⟩) ow.length c0] 65 (0,0))]::hs)) mixed ?_)
     refine AT.takes (fuel:=5) hT [0,1,2,4,5] kr kr rfl (.take (fuel:=4) hT 3 rfl rfl kr kr kr rfl (.load rfl (Ld.slc hT rfl hz rfl)) rfl ?_)
     refine AT.take (fuel:=3) hT 6 rfl rfl kr kr kr rfl (.load rfl (Ld.struct hT rfl hz rfl rfl)) rfl ?_
     refine AT.op (fuel:=2) 7 kr rfl sl (.fH hT rfl rfl rfl rfl (by omega) (by omega) rfl (.nil (.any (.takes (fuel:=1) hT [8] kr kr rfl (.op (fuel:=0) 9 kr rfl sl (.fe i 2 hT rfl rfl rfl rfl pl gN hi (by omega) rfl (by decide) rfl (z':={o with val:=x.val}) (by rfl) (fun Jf yO=> ?_)))))))
     refine OT.nil (.any (.done kr sl (.seq (.ret (.of (rs:=[]) [] ([(b,blk [wd,.slice (some ⟨ob,oo,none⟩) ow.length c0] 65 (0,0))]::KD::Jf::hs) rfl .nil sl ?_)))))
     try dsimp only[one]
     exact⟨_,_,rfl,by rw[jJ hnc (List.mem_of_getElem? hi) hk,qx hn hi hk];exact yO⟩
    .
     have gr:=of_decide_eq_false gr
     obtain⟨rfl,hnk⟩:=uq.resolve_left (fun⟨i,o,h,_⟩=>by omega)
     refine TT.skip (.seq (.jT [16] (([(jt,blk (cv x) 56 (0,0))]::[(b,blk [wd,.slice a0 ow.length c0] 65 (0,0))]::hs)) mixed ?_))
     refine AT.takes (fuel:=10) hT [0,1,2,3,5,7,9] kr kr rfl (.take (fuel:=9) hT 4 rfl rfl kr kr kr rfl (.load rfl (Ld.slc hT rfl hz rfl)) rfl ?_)
     refine AT.take (fuel:=8) hT 6 rfl rfl kr kr kr rfl (.load rfl (Ld.one hT rfl hz rfl)) rfl ?_
     refine AT.take (fuel:=7) hT 8 rfl rfl kr kr kr rfl (.load rfl (Ld.one hT rfl hz rfl)) rfl ?_
     refine AT.take (fuel:=6) hT 10 rfl rfl kr kr kr rfl (.load rfl (Ld.struct hT rfl hz rfl rfl)) rfl ?_
     refine AT.take (fuel:=5) hT 11 rfl rfl kr kr kr rfl (fk (cs:=dr ⟨x.aV,x.key,x.val⟩) hT rfl Tryz.zeroValue70 rfl rfl) rfl (.op (fuel:=4) 12 kr rfl sl ?_)
     refine OT.buildSlice (enc:=dr) (xs:=[(⟨x.aV,x.key,x.val⟩:aP)]) (ij:=[.tmp 71]) nt rfl rfl rfl rfl rfl (by simp[Value.cells];rfl) (fun _ _=>rfl) rfl (by decide) rfl (fun BJ JU qU=> ?_)
     refine OT.nil (.any (.op (fuel:=3) 13 kr rfl sl ?_))
     refine OT.append hT nt rfl rfl rfl rfl pl gN (qU.row) (cO (fun _=>rfl) _) (by simp only[List.length_singleton];omega) rfl (fun Dz yP kI=> ?_)
     obtain⟨a9,c9,vj⟩:=(kI.row (hs:=[])).len
     subst vj
     refine OT.nil (.any (.takes (fuel:=1) hT [14,15] kr kr rfl (.op (fuel:=0) 16 kr rfl sl (.store hT rfl rfl rfl rfl pl rfl (Nat.le_of_ble_eq_true rfl) rfl (.inl (Nat.le_refl _)) rfl ?_))))
     refine OT.nil (.any (.iQ kr kr (.of (rs:=[]) [] ([(b,blk [wd,_] 65 (0,0))]::KD::yP::hs) rfl .nil sl ?_)))
     try dsimp only[one]
     exact⟨_,_,rfl,by rw[jK hnc hnk];exact kI⟩
  .
   have sx:x.val.kind≠0:=by simpa using sx
   have hnc:¬(x.val.kind=0/\bO d x.key=none):=fun h=>sx h.1
   refine OT.U hT 3 rfl (.nil (.seq (.cond_false rfl (.skip (.seq (.seq (.seq (.region (.U hT 2 rfl (.nil (.seq (.cond rfl (fun gr=> ?_) (fun gr=> ?_)))))))))))))
   .
    have gr:=of_decide_eq_true gr
    obtain⟨i,o,rfl,hi,hk⟩:=uq.resolve_right (fun h=>by have:=h.1;omega)
    have hil:=(List.getElem?_eq_some_iff.1 hi).1
    obtain⟨ob,oo,oc,_,_,FU,_⟩:=gN.over (show 0<ow.length by omega)
    injection FU with e1 _ e3
    subst e1 e3
    refine TT.seq (.draw (([(jt,blk (cv x) 56 (0,0))]::[(b,blk [wd,.slice (some ⟨ob,oo,none⟩) ow.length c0] 65 (0,0))]::hs)) mixed ?_)
    refine AT.takes (fuel:=5) hT [0,1,2,4,5] kr kr rfl (.take (fuel:=4) hT 3 rfl rfl kr kr kr rfl (.load rfl (Ld.slc hT rfl hz rfl)) rfl ?_)
    refine AT.take (fuel:=3) hT 6 rfl rfl kr kr kr rfl (.load rfl (Ld.struct hT rfl hz rfl rfl)) rfl ?_
    refine AT.op (fuel:=2) 7 kr rfl sl (.fH hT rfl rfl rfl rfl (by omega) (by omega) rfl (.nil (.any (.takes (fuel:=1) hT [8] kr kr rfl (.op (fuel:=0) 9 kr rfl sl (.fe i 2 hT rfl rfl rfl rfl pl gN hi (by omega) rfl (by decide) rfl (z':={o with val:=x.val}) (by rfl) (fun Jf yO=> ?_)))))))
    refine OT.nil (.any (.done kr sl (.seq (.ret (.of (rs:=[]) [] ([(b,blk [wd,.slice (some ⟨ob,oo,none⟩) ow.length c0] 65 (0,0))]::KD::Jf::hs) rfl .nil sl ?_)))))
    try dsimp only[one]
    exact⟨_,_,rfl,by rw[jJ hnc (List.mem_of_getElem? hi) hk,qx hn hi hk];exact yO⟩
   .
    have gr:=of_decide_eq_false gr
    obtain⟨rfl,hnk⟩:=uq.resolve_left (fun⟨i,o,h,_⟩=>by omega)
    refine TT.skip (.seq (.jT [16] (([(jt,blk (cv x) 56 (0,0))]::[(b,blk [wd,.slice a0 ow.length c0] 65 (0,0))]::hs)) mixed ?_))
    refine AT.takes (fuel:=10) hT [0,1,2,3,5,7,9] kr kr rfl (.take (fuel:=9) hT 4 rfl rfl kr kr kr rfl (.load rfl (Ld.slc hT rfl hz rfl)) rfl ?_)
    refine AT.take (fuel:=8) hT 6 rfl rfl kr kr kr rfl (.load rfl (Ld.one hT rfl hz rfl)) rfl ?_
    refine AT.take (fuel:=7) hT 8 rfl rfl kr kr kr rfl (.load rfl (Ld.one hT rfl hz rfl)) rfl ?_
    refine AT.take (fuel:=6) hT 10 rfl rfl kr kr kr rfl (.load rfl (Ld.struct hT rfl hz rfl rfl)) rfl ?_
    refine AT.take (fuel:=5) hT 11 rfl rfl kr kr kr rfl (fk (cs:=dr ⟨x.aV,x.key,x.val⟩) hT rfl Tryz.zeroValue70 rfl rfl) rfl (.op (fuel:=4) 12 kr rfl sl ?_)
    refine OT.buildSlice (enc:=dr) (xs:=[(⟨x.aV,x.key,x.val⟩:aP)]) (ij:=[.tmp 71]) nt rfl rfl rfl rfl rfl (by simp[Value.cells];rfl) (fun _ _=>rfl) rfl (by decide) rfl (fun BJ JU qU=> ?_)
    refine OT.nil (.any (.op (fuel:=3) 13 kr rfl sl ?_))
    refine OT.append hT nt rfl rfl rfl rfl pl gN (qU.row) (cO (fun _=>rfl) _) (by simp only[List.length_singleton];omega) rfl (fun Dz yP kI=> ?_)
    obtain⟨a9,c9,vj⟩:=(kI.row (hs:=[])).len
    subst vj
    refine OT.nil (.any (.takes (fuel:=1) hT [14,15] kr kr rfl (.op (fuel:=0) 16 kr rfl sl (.store hT rfl rfl rfl rfl pl rfl (Nat.le_of_ble_eq_true rfl) rfl (.inl (Nat.le_refl _)) rfl ?_))))
    refine OT.nil (.any (.iQ kr kr (.of (rs:=[]) [] ([(b,blk [wd,_] 65 (0,0))]::KD::yP::hs) rfl .nil sl ?_)))
    try dsimp only[one]
    exact⟨_,_,rfl,by rw[jK hnc hnk];exact kI⟩
end Go.Proofs.YtihpkgmfkbkffaaGreat.Sx
end
section
namespace Go.Proofs.YtihpkgmfkbkffaaGreat.Sx
open Go Go.Sx Go.Pl
variable[aq]
theorem Ar{b:Nat}{g:az}{H:Chunk}{r:List Chunk}(hH:i_ b g H){t:Int}:ax Tryz.prog 18 [.pointer (some ⟨b,0,none⟩),.int .i64 t] (H::r) (fun v' hs'=>∃H' g' n e,hs'=H'::r/\v'= .tuple ⟨[.int .i64 n,.int .i64 e]⟩/\i_ b g' H'/\Mw t cR g g' n e):=by
 obtain⟨bk,h⟩:=hH
 refine(ua jY dP h).mono ?_
 rintro v' hs' (⟨h0,h1,H',h2,h3⟩|⟨h0,H',g',h1,h2,h3,h4⟩)
 . exact⟨H',g,0,1,h2,h1,⟨bk,h3⟩,.inl ⟨h0,rfl,rfl,rfl⟩⟩
 . exact⟨H',g',_,0,h1,h2,⟨bk,h3⟩,.inr ⟨h0,rfl,rfl,h4⟩⟩
theorem FD{b:Nat}{g:az}{H:Chunk}{r:List Chunk}(hH:i_ b g H){t:Int}:ax Tryz.prog 27 [.pointer (some ⟨b,0,none⟩),.int .i64 t] (H::r) (fun v' hs'=>∃H' g' n e,hs'=H'::r/\v'= .tuple ⟨[.int .i64 n,.int .i64 e]⟩/\i_ b g' H'/\Mw t ez g g' n e):=by
 obtain⟨bk,h⟩:=hH
 refine(Hi jY dP h).mono ?_
 rintro v' hs' (⟨h0,h1,H',h2,h3⟩|⟨h0,H',g',h1,h2,h3,h4⟩)
 . exact⟨H',g,0,1,h2,h1,⟨bk,h3⟩,.inl ⟨h0,rfl,rfl,rfl⟩⟩
 . exact⟨H',g',_,0,h1,h2,⟨bk,h3⟩,.inr ⟨h0,rfl,rfl,h4⟩⟩
set_option maxHeartbeats 2000000 in
set_option maxRecDepth 100000 in
theorem As{b:Nat}{g:az}{H:Chunk}{r:List Chunk}(hH:i_ b g H){bk:Nat}{wd wo:Value}{d:List bE}{ow:List aP}(hB:nh d ow g.2)(hb:Has r bk (blk [wd,wo] 65 (0,0)))(hD:Row bL 4 r wd d)(hO:Row dr 5 r wo ow)(FM:ow.length<=50000):ax Tryz.prog 35 [.pointer (some ⟨bk,0,none⟩),.iface 24 (.pointer (some ⟨b,0,none⟩))] (H::r) (fun v' hs'=>∃H',hs'=H'::r/\v'= .bool true/\i_ b g H'):=by
 refine ax.enter 31 Tryz.func35 rfl Tryz.ntmps35 rfl ?_
 have yj:d.length<=50000:=Nat.le_trans hB.Mv (Nat.le_trans hH.small.2.1 (by decide))
 refine TT.seq (.region (.U hT 1 rfl (.nil (.seq (.seq (.seq (.region (.U hT 1 rfl (.nil (.seq (.block (.loop (ι:=Nat×Chunk) (fun j=>(j.1)<=5/\i_ b g (j.2)) (fun j=>5-(j.1)) (fun j=>[(0,.pointer (some ⟨bk,0,none⟩)),(1,.iface 24 (.pointer (some ⟨b,0,none⟩))),(5,.int .i64 ((j.1):Nat))]) (fun j=>(j.2)::r) (0,H) ?_ (aa.cons rfl (aa.cons rfl (aa.cons rfl (aa.nil _)))) sl ?_))))))))))))
 . dsimp only
   exact⟨Nat.zero_le _,hH⟩
 rintro⟨t,HS⟩ hI
 dsimp only at hI
 obtain⟨ht,hS⟩:=hI
 show TT _ _ _ [(0,.pointer (some ⟨bk,0,none⟩)),(1,.iface 24 (.pointer (some ⟨b,0,none⟩))),(5,.int .i64 (t:Nat))] (HS::r)
 refine TT.seq (.seq (.region (.U hT 2 rfl (.nil (.seq (.cond rfl (fun c9=> ?_) (fun c9=> ?_)))))))
 .
  have c9:=of_decide_eq_true c9
  refine TT.skip (.seq (.seq (.block (.seq (.region (.U hT 2 rfl (.call Tryz.call19 rfl rfl rfl rfl (ax.pull pl (xz hS)) ?_)))))))
  rintro Ds wq ⟨Vo,K3,v3,rfl,rfl,IX,AU⟩
  obtain⟨a3,c3,Vp⟩:=(IX.row (hs:=[])).len
  subst Vp
  refine OT.U hT 5 rfl (.nil (.seq (.seq (.region (.U hT 3 rfl (.U hT 3 rfl (.call Tryz.call32 rfl rfl rfl rfl (jN (.there (.there hb)) (t:=(t:Int)) hD.there.there hO.there.there hB.fq yj FM) ?_)))))))
  rintro BI sZ ⟨KS,rfl,hRS⟩
  rw[<-hB.all]at hRS
  refine OT.call Tryz.call24 rfl rfl rfl rfl (xA (Row.mono IX.row fun b o hb=>Has.ic sl hb) hRS (Nat.le_trans (o6 _ _ _ _) (Nat.le_trans AU.small.2.1 (by decide))) (xh AU.good.fl _ _ _)) ?_
  rintro sI NX ⟨rfl,rfl⟩
  refine OT.U hT 2 rfl (.nil (.seq (.cond_false rfl (.skip (.blk (.seq (.region (.U hT 3 rfl (.nil (.loop (t+1,Vo) ?_ ?_ (aa.cons rfl (aa.cons rfl (aa.aD rfl (by(try dsimp only);exact(int_eq (by rw[wrap_i64 (by omega) (by omega)];omega))) (aa.nil _)))) sl))))))))))
  . dsimp only
    exact⟨by omega,AU⟩
  . dsimp only
    omega
 .
  have c9:=of_decide_eq_false c9
  refine TT.exit (.seq (.loop (.here (.seq (.seq (.region (.U hT 1 rfl (.call Tryz.call70 rfl rfl rfl rfl (ax.pull pl (xy hS)) ?_))))))))
  rintro qJ pH ⟨H9,rfl,rfl,Vq⟩
  refine OT.U hT 2 rfl (.nil (.seq (.ret (.of (rs:=[.tmp 4]) [_] (H9::r) rfl (.tmp rfl .nil) sl ?_))))
  try dsimp only[one]
  exact⟨H9,rfl,rfl,Vq⟩
set_option maxHeartbeats 16000000 in
set_option maxRecDepth 100000 in
theorem ye{v:Value}{ops:List IQ}{hs:List Chunk}(hr:Row cv 7 hs v ops)(FM:ops.length<=9223372036854775807)(hfl:UI ops):ax Tryz.prog 8 [v] hs (fun v' hs'=>v'= .bool true/\hs=hs'):=by
 refine ax.enter 254 Tryz.func8 rfl Tryz.ntmps8 rfl ?_
 obtain⟨a0,c0,hv⟩:=hr.len
 subst hv
 refine TT.seq (.region (.U hT 1 rfl (.nil (.seq (.seq (.region (.call Tryz.call14 rfl rfl rfl rfl (yd) ?_)))))))
 rintro yJ qQ ⟨rfl,rfl⟩
 refine OT.U hT 1 rfl (.nil (.seq (.seq (.seq (.region (.U hT 2 rfl (.nil (.seq (.cond_false rfl (.skip (.seq (.seq (.region (.build (cs:=cE (List.replicate 96 (.slice none 0 0))) hT rfl Tryz.zeroValue30 rfl rfl rfl rfl (.box rfl rfl rfl (fun Gl=> ?_))))))))))))))))
 refine OT.bU Tryz.underlying26 rfl rfl rfl rfl ?_
 have HM:iN 30 Gl C7 [(Gl,blk (cE (List.replicate 96 (.slice none 0 0))) 30 (0,0))]:=iN.one (fz.zero [[]])
 show OT _ _ _ _ _ ([(Gl,blk (cE (List.replicate 96 (.slice none 0 0))) 30 (0,0))]::hs)
 generalize([(Gl,blk (cE (List.replicate 96 (.slice none 0 0))) 30 (0,0))]:Chunk)=HB at HM⊢
 refine OT.call Tryz.call15 rfl rfl rfl rfl (zE HM) ?_
 rintro JR Ix ⟨b1,Vr,rfl,rfl,Mc⟩
 refine OT.U hT 1 rfl (.nil (.seq (.seq (.region (.build (cs:=[.slice none 0 0,.slice none 0 0]) hT rfl Tryz.zeroValue65 rfl rfl rfl rfl (.box rfl rfl rfl (fun iy=> ?_)))))))
 refine OT.U hT 1 rfl (.nil (.seq (.seq (.seq (.region (.U hT 1 rfl (.nil (.seq (.block (.loop (ι:=Nat×Value×Value×Chunk×Chunk×(List bE)×(List aP)×Chunk×az) (fun j=>(j.1)<=50/\i_ b1 (j.2.2.2.2.2.2.2.2) (j.2.2.2.2.2.2.2.1)/\nh (j.2.2.2.2.2.1) (j.2.2.2.2.2.2.1) (j.2.2.2.2.2.2.2.2).2/\(j.2.2.2.2.2.2.1).length<=(j.1)/\Own bL 4 60 (j.2.1) (j.2.2.2.2.2.1) (j.2.2.2.1)/\Own dr 5 70 (j.2.2.1) (j.2.2.2.2.2.2.1) (j.2.2.2.2.1)) (fun j=>50-(j.1)) (fun j=>[(0,.slice a0 ops.length c0),(4,.pointer (some ⟨b1,0,none⟩)),(5,.pointer (some ⟨iy,0,none⟩)),(6,.int .i64 ((j.1):Nat))]) (fun j=>[(iy,blk [(j.2.1),(j.2.2.1)] 65 (0,0))]::(j.2.2.2.1)::(j.2.2.2.2.1)::(j.2.2.2.2.2.2.2.1)::hs) (0,.slice none 0 0,.slice none 0 0,[],[],[],[],Vr,([],[])) ?_ (aa.cons rfl (aa.cons rfl (aa.cons rfl (aa.cons rfl (aa.nil _))))) sl ?_))))))))))
 . dsimp only
   exact⟨Nat.zero_le _,Mc,nh.Kr,Nat.le_refl _,Own.nil,Own.nil⟩
 rintro⟨i,wd,wo,KD,KO,d,ow,HS,g⟩ hI
 dsimp only at hI
 obtain⟨hi,hS,hB,FM,qj,gN⟩:=hI
 show TT _ _ _ [(0,.slice a0 ops.length c0),(4,.pointer (some ⟨b1,0,none⟩)),(5,.pointer (some ⟨iy,0,none⟩)),(6,.int .i64 (i:Nat))] ([(iy,blk [wd,wo] 65 (0,0))]::KD::KO::HS::hs)
 refine TT.seq (.seq (.region (.U hT 5 rfl (.split 35 rfl (fun mo=> ?_) (fun mo=> ?_)))))
 .
  have mo:i<ops.length:=by have:=of_decide_eq_true mo;omega
  refine OT.U hT 3 rfl (.nil (.seq (.cond rfl (fun Mf=> ?_) (fun Mf=> ?_))))
  .
   have Mf:=of_decide_eq_true Mf
   obtain⟨x,hx⟩:=nth (l:=ops) (i:=i) (by omega)
   have fR:(ay x).val.f<2^64:=hfl x (List.mem_of_getElem? hx)
   obtain⟨a2,c2,Vs⟩:=(gN.row (hs:=[])).len
   subst Vs
   have yj:d.length<=50000:=Nat.le_trans hB.Mv (Nat.le_trans hS.small.2.1 (by decide))
   refine TT.skip (.seq (.seq (.block (.seq (.region (.U hT 2 rfl (.index hT rfl rfl rfl rfl (Row.mono hr fun b o hb=>Has.ic sl hb) (by omega) (by rw[Int.toNat_natCast];exact hx) rfl (fun NG zw=> ?_))))))))
   refine OT.load rfl rfl (zw.cy hT rfl) rfl (.alloc Tryz.zeroValue56 rfl rfl (fun ni=> ?_))
   refine OT.ag hT rfl rfl rfl rfl pl rfl rfl rfl (.inl (Nat.le_refl _)) ?_
   refine OT.nil (.seq (.seq (.jT [10,12,14] (([(ni,blk (cv x) 56 (0,0))]::hs)) mixed (.takes (fuel:=12) hT [0,3,6] kr kr rfl (.take (fuel:=11) hT 1 rfl rfl kr kr kr rfl (.load rfl (Ld.one hT rfl hz rfl)) rfl ?_)))))
   refine AT.take (fuel:=10) hT 4 rfl rfl kr kr kr rfl (.load rfl (Ld.one hT rfl hz rfl)) rfl ?_
   refine AT.take (fuel:=9) hT 7 rfl rfl kr kr kr rfl (.load rfl (Ld.struct (vs:=bA x.val) hT rfl hz rfl rfl)) rfl ?_
   refine AT.op (fuel:=8) 2 kr rfl sl (.call Tryz.call25 rfl rfl rfl rfl (rK (n:=20)) ?_)
   rintro JI DW ⟨rfl,rfl⟩
   refine OT.nil (.any (.takes (fuel:=7) hT [9] kr kr rfl (.op (fuel:=6) 5 kr rfl sl (.call Tryz.call25 rfl rfl rfl rfl (rK (n:=20)) ?_))))
   rintro BK AM ⟨rfl,rfl⟩
   refine OT.nil (.any (.op (fuel:=5) 8 kr rfl sl (.call Tryz.call26 rfl rfl rfl rfl (CK) ?_)))
   rintro JC Ik ⟨rfl,rfl⟩
   refine OT.nil (.any (.op (fuel:=4) 10 kr rfl sl (.store hT rfl rfl rfl rfl pl rfl (Nat.le_of_ble_eq_true rfl) rfl (.inl (Nat.le_refl _)) rfl ?_)))
   refine OT.nil (.any (.FG (fuel:=3) 11 kr rfl kr (.U hT 1 rfl (.nil (.any (.FG (fuel:=2) 12 kr rfl kr (.store hT rfl rfl rfl rfl pl rfl (Nat.le_of_ble_eq_true rfl) rfl (.inl (Nat.le_refl _)) rfl ?_)))))))
   refine OT.nil (.any (.FG (fuel:=1) 13 kr rfl kr (.U hT 1 rfl (.nil (.any (.FG (fuel:=0) 14 kr rfl kr (.store hT rfl rfl rfl rfl pl rfl (Nat.le_of_ble_eq_true rfl) rfl (.inl (Nat.le_refl _)) rfl ?_)))))))
   refine OT.nil (.any (.iQ kr kr (.seq (.cut (ι:=Unit) (fun j=>True) (fun j=>[(0,.slice a0 ops.length c0),(4,.pointer (some ⟨b1,0,none⟩)),(5,.pointer (some ⟨iy,0,none⟩)),(6,.int .i64 (i:Nat)),(7,.pointer (some ⟨ni,0,none⟩)),(8,.bool (iY (ay x).aV))]) (fun j=>[(ni,blk (cv (ay x)) 56 (0,0))]::[(iy,blk [wd,.slice a2 ow.length c2] 65 (0,0))]::KD::KO::HS::hs) ?_ ?_))))
   .
    refine TT.region (.U hT 1 rfl (.load rfl rfl (Ld.one hT rfl hz rfl) rfl ?_))
    refine OT.U hT 2 rfl (.split 60 rfl (fun Jg=> ?_) (fun Jg=> ?_))
    .
     have Jg:x.aV>=1:=of_decide_eq_true Jg
     refine OT.U hT 1 rfl (.load rfl rfl (Ld.one hT rfl hz rfl) rfl ?_)
     refine OT.U hT 3 rfl (.nil (.cut (()) ?_ (aa.cons rfl (aa.cons rfl (aa.cons rfl (aa.cons rfl (aa.cons rfl (aa.aD rfl (by(try dsimp only);exact(congrArg Value.bool (show _=(decide (1<=x.aV)&&decide (x.aV<=1099511627776)) by rw[decide_eq_true (show 1<=x.aV from Jg)];rfl))) (aa.nil _))))))) sl))
     . trivial
    .
     have Jg:¬x.aV>=1:=of_decide_eq_false Jg
     refine OT.U hT 5 rfl (.nil (.cut (()) ?_ (aa.cons rfl (aa.cons rfl (aa.cons rfl (aa.cons rfl (aa.cons rfl (aa.aD rfl (by(try dsimp only);exact(congrArg Value.bool (show _=(decide (1<=x.aV)&&decide (x.aV<=1099511627776)) by rw[decide_eq_false (show¬1<=x.aV from Jg)];rfl))) (aa.nil _))))))) sl))
     . trivial
   .
    rintro _ hI
    show TT _ _ _ [(0,.slice a0 ops.length c0),(4,.pointer (some ⟨b1,0,none⟩)),(5,.pointer (some ⟨iy,0,none⟩)),(6,.int .i64 (i:Nat)),(7,.pointer (some ⟨ni,0,none⟩)),(8,.bool (iY (ay x).aV))] ([(ni,blk (cv (ay x)) 56 (0,0))]::[(iy,blk [wd,.slice a2 ow.length c2] 65 (0,0))]::KD::KO::HS::hs)
    refine TT.cut (ι:=Value×Value×Chunk×Chunk×(List bE)×(List aP)×Chunk×az) (fun j=>i_ b1 (j.2.2.2.2.2.2.2) (j.2.2.2.2.2.2.1)/\nh (j.2.2.2.2.1) (j.2.2.2.2.2.1) (j.2.2.2.2.2.2.2).2/\(j.2.2.2.2.2.1).length<=i+1/\Own bL 4 60 (j.1) (j.2.2.2.2.1) (j.2.2.1)/\Own dr 5 70 (j.2.1) (j.2.2.2.2.2.1) (j.2.2.2.1)) (fun j=>[(0,.slice a0 ops.length c0),(4,.pointer (some ⟨b1,0,none⟩)),(5,.pointer (some ⟨iy,0,none⟩)),(6,.int .i64 (i:Nat))]) (fun j=>[(iy,blk [(j.1),(j.2.1)] 65 (0,0))]::(j.2.2.1)::(j.2.2.2.1)::(j.2.2.2.2.2.2.1)::hs) ?_ ?_
    .
     refine TT.seq (.region (.U hT 1 rfl (.load rfl rfl (Ld.one hT rfl hz rfl) rfl ?_)))
     refine OT.nil (.seq (.block (.seq (.region (.U hT 2 rfl (.nil (.seq (.cond rfl (fun Mg=> ?_) (fun Mg=> ?_)))))))))
     .
      have Mg:=beq_iff_eq.1 Mg
      refine TT.seq (.region (.U hT 1 rfl (.nil (.seq (.seq (.region (.U hT 2 rfl (.load rfl rfl (Ld.one hT rfl hz rfl) rfl ?_))))))))
      refine OT.call Tryz.call28 rfl rfl rfl rfl (ou hz (key:=(ay x).key) (Row.mono (gN.row (hs:=hs)) fun b o hb=>Has.ic sl hb) (by omega)) ?_
      rintro QC NU ⟨z,rfl,uq,rfl⟩
      refine OT.U hT 1 rfl (.nil (.seq (.cut (ι:=Int) (fun j=>DO (ay x).aV (ay x).key (ay x).val g.2 (j)) (fun j=>[(0,.slice a0 ops.length c0),(4,.pointer (some ⟨b1,0,none⟩)),(5,.pointer (some ⟨iy,0,none⟩)),(6,.int .i64 (i:Nat)),(7,.pointer (some ⟨ni,0,none⟩)),(9,.int .i64 (j))]) (fun j=>[(ni,blk (cv (ay x)) 56 (0,0))]::[(iy,blk [wd,.slice a2 ow.length c2] 65 (0,0))]::KD::KO::HS::hs) ?_ ?_)))
      .
       refine TT.seq (.region (.U hT 3 rfl (.split 88 rfl (fun F5=> ?_) (fun F5=> ?_))))
       .
        have F5:iY (ay x).aV=false:=by simpa using F5
        refine OT.U hT 11 rfl (.nil (.seq (.cond_true rfl (.region (.U hT 1 rfl (.nil (.cut (1) ?_ (aa.cons rfl (aa.cons rfl (aa.cons rfl (aa.cons rfl (aa.cons rfl (aa.cons rfl (aa.nil _))))))) sl)))))))
        . exact .inl ⟨.inl F5,rfl⟩
       .
        have F5:iY (ay x).aV=true:=by simpa using F5
        refine OT.U hT 1 rfl (.load rfl rfl (Ld.one hT rfl hz rfl) rfl ?_)
        refine OT.call Tryz.call29 rfl rfl rfl rfl (xX) ?_
        rintro ME Ip ⟨rfl,rfl⟩
        refine OT.U hT 3 rfl (.split 94 rfl (fun F6=> ?_) (fun F6=> ?_))
        .
         have F6:bp (ay x).key=false:=by simpa using F6
         refine OT.U hT 5 rfl (.nil (.seq (.cond_true rfl (.region (.U hT 1 rfl (.nil (.cut (1) ?_ (aa.cons rfl (aa.cons rfl (aa.cons rfl (aa.cons rfl (aa.cons rfl (aa.cons rfl (aa.nil _))))))) sl)))))))
         . exact .inl ⟨.inr (.inl F6),rfl⟩
        .
         have F6:bp (ay x).key=true:=by simpa using F6
         refine OT.U hT 1 rfl (.load rfl rfl (Ld.struct (vs:=bA (ay x).val) hT rfl hz rfl rfl) rfl ?_)
         refine OT.call Tryz.call30 rfl rfl rfl rfl (xY fR) ?_
         rintro Wk TP ⟨rfl,rfl⟩
         refine OT.U hT 2 rfl (.nil (.seq (.cond rfl (fun F7=> ?_) (fun F7=> ?_))))
         .
          have F7:bq (ay x).val=false:=by simpa using F7
          refine TT.region (.U hT 1 rfl (.nil (.cut (1) ?_ (aa.cons rfl (aa.cons rfl (aa.cons rfl (aa.cons rfl (aa.cons rfl (aa.cons rfl (aa.nil _))))))) sl)))
          . exact .inl ⟨.inr (.inr F7),rfl⟩
         .
          have F7:bq (ay x).val=true:=by simpa using F7
          refine TT.seq (.draw (([(ni,blk (cv (ay x)) 56 (0,0))]::[(iy,blk [wd,.slice a2 ow.length c2] 65 (0,0))]::KO::hs)) mixed ?_)
          refine AT.takes (fuel:=12) hT [0,1,2] kr kr rfl (.split 102 rfl (fun DA=> ?_) (fun DA=> ?_))
          .
           have DA:=of_decide_eq_true DA
           obtain⟨q,o,rfl,ho,hk⟩:=uq.resolve_right (fun h=>by have:=h.1;omega)
           refine AT.takes (fuel:=7) hT [3,4,5,7,11] kr kr rfl (.take (fuel:=6) hT 6 rfl rfl kr kr kr rfl (.load rfl (Ld.slc hT rfl hz rfl)) rfl ?_)
           refine AT.take (fuel:=5) hT 12 rfl rfl kr kr kr rfl (.load rfl (Ld.one hT rfl hz rfl)) rfl ?_
           refine AT.index (fuel:=4) hT 8 rfl kr kr kr rfl rfl rfl rfl (gN.row.there.there) (by omega) (by rw[Int.toNat_natCast];exact ho) rfl (fun QY Hv=> ?_)
           obtain⟨QZ,Q5,rfl,FE⟩:=Hv.at (P:=Tryz.prog)
           refine AT.takes (fuel:=3) hT [9] kr kr rfl (.take (fuel:=2) hT 10 rfl rfl kr kr kr rfl (.load rfl (FE hT rfl rfl)) rfl (.takes (fuel:=0) hT [13,14] kr kr rfl (.done kr sl (.seq (.cond rfl (fun yQ=> ?_) (fun yQ=> ?_))))))
           .
            have yQ:=bne_iff_ne.1 yQ
            refine TT.region (.U hT 1 rfl (.nil (.cut (9) ?_ (aa.cons rfl (aa.cons rfl (aa.cons rfl (aa.cons rfl (aa.cons rfl (aa.cons rfl (aa.nil _))))))) sl)))
            . exact .inr (.inl ⟨⟨F5,F6,F7⟩,(hB.busy uq).2 ⟨q,o,rfl,ho,yQ⟩,rfl⟩)
           .
            have yQ:=bne_eq_false_iff_eq.1 yQ
            refine TT.skip (.cut (0) ?_ (aa.cons rfl (aa.cons rfl (aa.cons rfl (aa.cons rfl (aa.cons rfl (aa.cons rfl (aa.nil _))))))) sl)
            . exact .inr (.inr ⟨⟨F5,F6,F7⟩,hB.free uq ho yQ,rfl⟩)
          .
           have DA:=of_decide_eq_false DA
           obtain⟨rfl,hnk⟩:=uq.resolve_left (fun⟨q,o,h,_⟩=>by omega)
           refine AT.takes (fuel:=0) hT [3,4,5,6,7,8,9,10,11,12,13,14] kr kr rfl (.done kr sl (.seq (.cond_false rfl (.skip (.cut (0) ?_ (aa.cons rfl (aa.cons rfl (aa.cons rfl (aa.cons rfl (aa.cons rfl (aa.cons rfl (aa.nil _))))))) sl)))))
           . exact .inr (.inr ⟨⟨F5,F6,F7⟩,hB.Nj uq,rfl⟩)
      .
       rintro w hW
       show TT _ _ _ [(0,.slice a0 ops.length c0),(4,.pointer (some ⟨b1,0,none⟩)),(5,.pointer (some ⟨iy,0,none⟩)),(6,.int .i64 (i:Nat)),(7,.pointer (some ⟨ni,0,none⟩)),(9,.int .i64 w)] ([(ni,blk (cv (ay x)) 56 (0,0))]::[(iy,blk [wd,.slice a2 ow.length c2] 65 (0,0))]::KD::KO::HS::hs)
       refine TT.seq (.region (.U hT 2 rfl (.load rfl rfl (Ld.one hT rfl hz rfl) rfl ?_)))
       refine OT.U hT 1 rfl (.load rfl rfl (Ld.one hT rfl hz rfl) rfl ?_)
       refine OT.U hT 1 rfl (.load rfl rfl (Ld.struct (vs:=bA (ay x).val) hT rfl hz rfl rfl) rfl ?_)
       refine OT.call Tryz.call16 rfl rfl rfl rfl (ax.pull pl (rL hS (t:=(ay x).aV) (k:=(ay x).key) (v:=(ay x).val) fR)) ?_
       rintro TQ Q6 ⟨Lx,g1,e,rfl,rfl,Dj,hw1⟩
       have yy:=hW.write hw1
       refine OT.U hT 1 rfl (.nil (.seq (.seq (.seq (.region (.U hT 4 rfl (.split 126 rfl (fun Gm=> ?_) (fun Gm=> ?_))))))))
       .
        have Gm:=bne_iff_ne.1 Gm
        obtain⟨rfl,rfl⟩:=yy.resolve_left Gm
        refine OT.U hT 3 rfl (.U hT 4 rfl (.nil (.seq (.cond_false rfl (.skip (.seq (.seq (.region (.U hT 2 rfl (.nil (.seq (.cond rfl (fun mB=> ?_) (fun mB=> ?_)))))))))))))
        .
         have mB:=beq_iff_eq.1 mB
         refine TT.region (.U hT 1 rfl (.load rfl rfl (Ld.af hT rfl hz rfl) rfl ?_))
         refine OT.call Tryz.call31 rfl rfl rfl rfl (ax.weaken sl (ov (x:=(ay x)) (hs:=Lx::[(ni,blk (cv (ay x)) 56 (0,0))]::hs) qj gN yj (by omega) hB.once)) ?_
         rintro N8 Lf ⟨w3,K3,rfl,JV⟩
         refine OT.nil (.blk (.cut (wd,w3,KD,K3,d,cY d ow ⟨(ay x).aV,(ay x).key,(ay x).val⟩,Lx,g1) ?_ (aa.cons rfl (aa.cons rfl (aa.cons rfl (aa.cons rfl (aa.nil _))))) sl))
         . dsimp only
           exact⟨Dj,hw1.book hB hS.good mB,by have:=so d ow ⟨(ay x).aV,(ay x).key,(ay x).val⟩;omega,qj,JV⟩
        .
         have mB:=beq_eq_false_iff_ne.1 mB
         refine TT.skip (.blk (.cut (wd,.slice a2 ow.length c2,KD,KO,d,ow,Lx,g1) ?_ (aa.cons rfl (aa.cons rfl (aa.cons rfl (aa.cons rfl (aa.nil _))))) sl))
         . dsimp only
           exact⟨Dj,by rw[hw1.stays mB];exact hB,by omega,qj,gN⟩
       .
        refine OT.U hT 7 rfl (.nil (.seq (.cond_false rfl (.skip (.seq (.seq (.region (.U hT 2 rfl (.nil (.seq (.cond rfl (fun mB=> ?_) (fun mB=> ?_))))))))))))
        .
         have mB:=beq_iff_eq.1 mB
         refine TT.region (.U hT 1 rfl (.load rfl rfl (Ld.af hT rfl hz rfl) rfl ?_))
         refine OT.call Tryz.call31 rfl rfl rfl rfl (ax.weaken sl (ov (x:=(ay x)) (hs:=Lx::[(ni,blk (cv (ay x)) 56 (0,0))]::hs) qj gN yj (by omega) hB.once)) ?_
         rintro N8 Lf ⟨w3,K3,rfl,JV⟩
         refine OT.nil (.blk (.cut (wd,w3,KD,K3,d,cY d ow ⟨(ay x).aV,(ay x).key,(ay x).val⟩,Lx,g1) ?_ (aa.cons rfl (aa.cons rfl (aa.cons rfl (aa.cons rfl (aa.nil _))))) sl))
         . dsimp only
           exact⟨Dj,hw1.book hB hS.good mB,by have:=so d ow ⟨(ay x).aV,(ay x).key,(ay x).val⟩;omega,qj,JV⟩
        .
         have mB:=beq_eq_false_iff_ne.1 mB
         refine TT.skip (.blk (.cut (wd,.slice a2 ow.length c2,KD,KO,d,ow,Lx,g1) ?_ (aa.cons rfl (aa.cons rfl (aa.cons rfl (aa.cons rfl (aa.nil _))))) sl))
         . dsimp only
           exact⟨Dj,by rw[hw1.stays mB];exact hB,by omega,qj,gN⟩
     .
      have Mg:=beq_eq_false_iff_ne.1 Mg
      refine TT.seq (.region (.U hT 2 rfl (.nil (.seq (.cond rfl (fun DB=> ?_) (fun DB=> ?_))))))
      .
       have DB:=beq_iff_eq.1 DB
       refine TT.seq (.region (.U hT 1 rfl (.bU Tryz.underlying24 rfl rfl rfl rfl (.U hT 1 rfl (.load rfl rfl (Ld.one hT rfl hz rfl) rfl ?_)))))
       refine OT.U hT 1 rfl (.load rfl rfl (Ld.one hT rfl hz rfl) rfl ?_)
       refine OT.call Tryz.call20 rfl rfl rfl rfl (ax.pull pl (uF hS (t:=(ay x).aV) (k:=(ay x).key))) ?_
       rintro TR Q7 ⟨PT,rfl,rfl,HN⟩
       have Ly:(oF g.2 (ay x).aV (ay x).key).f<2^64:=Ks HN.good.fl _ _
       refine OT.U hT 3 rfl (.alloc Tryz.zeroValue36 rfl rfl (fun JQ=> ?_))
       refine OT.ag hT rfl rfl rfl rfl pl rfl rfl rfl (.inl (Nat.le_refl _)) ?_
       refine OT.U hT 1 rfl (.nil (.seq (.seq (.draw (([(ni,blk (cv (ay x)) 56 (0,0))]::hs)) mixed (.takes (fuel:=10) hT [0,1,4] kr kr rfl (.take (fuel:=9) hT 2 rfl rfl kr kr kr rfl (.load rfl (Ld.one hT rfl hz rfl)) rfl ?_))))))
       refine AT.take (fuel:=8) hT 5 rfl rfl kr kr kr rfl (.load rfl (Ld.one hT rfl hz rfl)) rfl ?_
       refine AT.all (fuel:=7) [3,10] kr (by decide) sl ?_
       intro i hi
       simp only[List.mem_cons,List.not_mem_nil,or_false]at hi
       rcases hi with rfl|rfl
       .
        refine⟨_,rfl,?_⟩
        refine OT.call Tryz.call32 rfl rfl rfl rfl (jN hz (t:=(ay x).aV) (Row.mono (qj.row (hs:=hs)) fun b o hb=>Has.ic sl hb) (Row.mono (gN.row (hs:=hs)) fun b o hb=>Has.ic sl hb) hB.fq yj (by omega)) ?_
        rintro N9 Lg ⟨KS,rfl,hRS⟩
        have LV:=kS (t:=(ay x).aV) (ow:=ow) hB.fq
        refine OT.nil (.any (.all (fuel:=6) [6,10] kr (by decide) sl ?_))
        intro i hi
        simp only[List.mem_cons,List.not_mem_nil,or_false]at hi
        rcases hi with rfl|rfl
        .
         refine⟨_,rfl,?_⟩
         refine OT.call Tryz.call21 rfl rfl rfl rfl (jm (k:=(ay x).key) (Row.mono hRS fun b o hb=>Has.ic sl hb) (by omega)) ?_
         rintro IA EA ⟨rfl,rfl⟩
         rw[<-hB.Oq]
         refine OT.nil (.any (.takes (fuel:=3) hT [7,8,9] kr kr rfl (.op (fuel:=2) 10 kr rfl sl (.alloc Tryz.zeroValue36 rfl rfl (fun nw=> ?_)))))
         refine OT.nil (.any (.op (fuel:=1) 11 kr rfl sl (.ag hT rfl rfl rfl rfl pl rfl rfl rfl (.inl (Nat.le_refl _)) ?_)))
         refine OT.nil (.any (.takes (fuel:=0) hT [12] kr kr rfl (.done kr sl (.seq (.seq (.region (.U hT 3 rfl (.load rfl rfl (Ld.af hT rfl hz rfl) rfl ?_))))))))
         refine OT.load rfl rfl (Ld.af hT rfl hz rfl) rfl ?_
         refine OT.call Tryz.call22 rfl rfl rfl rfl (jL Ly Ly) ?_
         rintro IB EB ⟨rfl,rfl⟩
         refine OT.U hT 2 rfl (.nil (.seq (.cond rfl (fun vL=> ?_) (fun vL=> ?_))))
         .
          exact absurd vL (by rw[lX];simp)
         .
          refine TT.skip (.blk (.cut (wd,.slice a2 ow.length c2,KD,KO,d,ow,PT,g) ?_ (aa.cons rfl (aa.cons rfl (aa.cons rfl (aa.cons rfl (aa.nil _))))) sl))
          . dsimp only
            exact⟨HN,hB,by omega,qj,gN⟩
        .
         refine⟨_,rfl,?_⟩
         refine OT.alloc Tryz.zeroValue36 rfl rfl (fun nw=> ?_)
         refine OT.nil (.any (.op (fuel:=5) 6 kr rfl sl (.call Tryz.call21 rfl rfl rfl rfl (jm (k:=(ay x).key) (Row.mono hRS fun b o hb=>Has.ic sl hb) (by omega)) ?_)))
         rintro IA EA ⟨rfl,rfl⟩
         rw[<-hB.Oq]
         refine OT.nil (.any (.takes (fuel:=2) hT [7,8,9] kr kr rfl (.op (fuel:=1) 11 kr rfl sl (.ag hT rfl rfl rfl rfl pl rfl rfl rfl (.inl (Nat.le_refl _)) ?_))))
         refine OT.nil (.any (.takes (fuel:=0) hT [12] kr kr rfl (.done kr sl (.seq (.seq (.region (.U hT 3 rfl (.load rfl rfl (Ld.af hT rfl hz rfl) rfl ?_))))))))
         refine OT.load rfl rfl (Ld.af hT rfl hz rfl) rfl ?_
         refine OT.call Tryz.call22 rfl rfl rfl rfl (jL Ly Ly) ?_
         rintro IB EB ⟨rfl,rfl⟩
         refine OT.U hT 2 rfl (.nil (.seq (.cond rfl (fun vL=> ?_) (fun vL=> ?_))))
         .
          exact absurd vL (by rw[lX];simp)
         .
          refine TT.skip (.blk (.cut (wd,.slice a2 ow.length c2,KD,KO,d,ow,PT,g) ?_ (aa.cons rfl (aa.cons rfl (aa.cons rfl (aa.cons rfl (aa.nil _))))) sl))
          . dsimp only
            exact⟨HN,hB,by omega,qj,gN⟩
       .
        refine⟨_,rfl,?_⟩
        refine OT.alloc Tryz.zeroValue36 rfl rfl (fun nw=> ?_)
        refine OT.nil (.any (.op (fuel:=6) 3 kr rfl sl (.call Tryz.call32 rfl rfl rfl rfl (jN hz (t:=(ay x).aV) (Row.mono (qj.row (hs:=hs)) fun b o hb=>Has.ic sl hb) (Row.mono (gN.row (hs:=hs)) fun b o hb=>Has.ic sl hb) hB.fq yj (by omega)) ?_)))
        rintro N9 Lg ⟨KS,rfl,hRS⟩
        have LV:=kS (t:=(ay x).aV) (ow:=ow) hB.fq
        refine OT.nil (.any (.op (fuel:=5) 6 kr rfl sl (.call Tryz.call21 rfl rfl rfl rfl (jm (k:=(ay x).key) (Row.mono hRS fun b o hb=>Has.ic sl hb) (by omega)) ?_)))
        rintro IA EA ⟨rfl,rfl⟩
        rw[<-hB.Oq]
        refine OT.nil (.any (.takes (fuel:=2) hT [7,8,9] kr kr rfl (.op (fuel:=1) 11 kr rfl sl (.ag hT rfl rfl rfl rfl pl rfl rfl rfl (.inl (Nat.le_refl _)) ?_))))
        refine OT.nil (.any (.takes (fuel:=0) hT [12] kr kr rfl (.done kr sl (.seq (.seq (.region (.U hT 3 rfl (.load rfl rfl (Ld.af hT rfl hz rfl) rfl ?_))))))))
        refine OT.load rfl rfl (Ld.af hT rfl hz rfl) rfl ?_
        refine OT.call Tryz.call22 rfl rfl rfl rfl (jL Ly Ly) ?_
        rintro IB EB ⟨rfl,rfl⟩
        refine OT.U hT 2 rfl (.nil (.seq (.cond rfl (fun vL=> ?_) (fun vL=> ?_))))
        .
         exact absurd vL (by rw[lX];simp)
        .
         refine TT.skip (.blk (.cut (wd,.slice a2 ow.length c2,KD,KO,d,ow,PT,g) ?_ (aa.cons rfl (aa.cons rfl (aa.cons rfl (aa.cons rfl (aa.nil _))))) sl))
         . dsimp only
           exact⟨HN,hB,by omega,qj,gN⟩
      .
       have DB:=beq_eq_false_iff_ne.1 DB
       refine TT.seq (.region (.U hT 2 rfl (.nil (.seq (.cond rfl (fun DC=> ?_) (fun DC=> ?_))))))
       .
        have DC:=beq_iff_eq.1 DC
        refine TT.seq (.region (.U hT 1 rfl (.bU Tryz.underlying24 rfl rfl rfl rfl (.U hT 1 rfl (.load rfl rfl (Ld.one hT rfl hz rfl) rfl ?_)))))
        refine OT.U hT 1 rfl (.load rfl rfl (Ld.one hT rfl hz rfl) rfl ?_)
        refine OT.U hT 1 rfl (.load rfl rfl (Ld.one hT rfl hz rfl) rfl ?_)
        refine OT.call Tryz.call19 rfl rfl rfl rfl (ax.pull pl (xz hS (t:=(ay x).aV) (s:=(ay x).key) (e:=(ay x).to))) ?_
        rintro TS Q8 ⟨Vt,K5,v5,rfl,rfl,Sk,Ja⟩
        obtain⟨a5,c5,Vu⟩:=(Sk.row (hs:=[])).len
        subst Vu
        refine OT.U hT 5 rfl (.nil (.seq (.seq (.draw (([(ni,blk (cv (ay x)) 56 (0,0))]::hs)) mixed (.takes (fuel:=13) hT [0,1,2] kr kr rfl (.takes (fuel:=8) hT [3,4,5,8,10] kr kr rfl (.take (fuel:=7) hT 6 rfl rfl kr kr kr rfl (.load rfl (Ld.one hT rfl hz rfl)) rfl ?_)))))))
        refine AT.take (fuel:=6) hT 9 rfl rfl kr kr kr rfl (.load rfl (Ld.one hT rfl hz rfl)) rfl ?_
        refine AT.take (fuel:=5) hT 11 rfl rfl kr kr kr rfl (.load rfl (Ld.one hT rfl hz rfl)) rfl ?_
        refine AT.op (fuel:=4) 7 kr rfl sl (.call Tryz.call32 rfl rfl rfl rfl (jN hz (t:=(ay x).aV) (Row.mono (qj.row (hs:=hs)) fun b o hb=>Has.ic sl hb) (Row.mono (gN.row (hs:=hs)) fun b o hb=>Has.ic sl hb) hB.fq yj (by omega)) ?_)
        rintro TU Q9 ⟨KS,rfl,hRS⟩
        have LV:=kS (t:=(ay x).aV) (ow:=ow) hB.fq
        refine OT.nil (.any (.op (fuel:=3) 12 kr rfl sl (.call Tryz.call33 rfl rfl rfl rfl (Aq (a:=(ay x).key) (b:=(ay x).to) (Row.mono hRS fun b o hb=>Has.ic sl hb) (by omega)) ?_)))
        rintro TV Q_ ⟨KP,rfl,Sl⟩
        rw[<-hB.range]at Sl
        refine OT.nil (.any (.op (fuel:=2) 13 kr rfl sl (.call Tryz.call24 rfl rfl rfl rfl (xA (Row.mono (Sk.row (hs:=hs)) fun b o hb=>Has.ic sl hb) (Row.mono (Sl.row (hs:=hs)) fun b o hb=>Has.ic sl hb) (Nat.le_trans (o6 _ _ _ _) (Nat.le_trans Ja.small.2.1 (by decide))) (xh Ja.good.fl _ _ _)) ?_)))
        rintro TW Ra ⟨rfl,rfl⟩
        refine OT.nil (.any (.takes (fuel:=0) hT [14,15] kr kr rfl (.done kr sl (.seq (.cond_false rfl (.skip (.blk (.cut (wd,.slice a2 ow.length c2,KD,KO,d,ow,Vt,g) ?_ (aa.cons rfl (aa.cons rfl (aa.cons rfl (aa.cons rfl (aa.nil _))))) sl))))))))
        . dsimp only
          exact⟨Ja,hB,by omega,qj,gN⟩
       .
        have DC:=beq_eq_false_iff_ne.1 DC
        refine TT.cut (ι:=Unit) (fun j=>True) (fun j=>[(0,.slice a0 ops.length c0),(4,.pointer (some ⟨b1,0,none⟩)),(5,.pointer (some ⟨iy,0,none⟩)),(6,.int .i64 (i:Nat)),(7,.pointer (some ⟨ni,0,none⟩)),(8,.bool (iY (ay x).aV)),(199,.bool (decide ((ay x).kind=3\/(ay x).kind=4)))]) (fun j=>[(ni,blk (cv (ay x)) 56 (0,0))]::[(iy,blk [wd,.slice a2 ow.length c2] 65 (0,0))]::KD::KO::HS::hs) ?_ ?_
        .
         refine TT.seq (.region (.U hT 2 rfl (.nil (.seq (.cond rfl (fun DD=> ?_) (fun DD=> ?_))))))
         .
          refine TT.skip (.cut (()) ?_ (aa.cons rfl (aa.cons rfl (aa.cons rfl (aa.cons rfl (aa.cons rfl (aa.cons rfl (aa.aD rfl (by(try dsimp only);exact(congrArg Value.bool (by rw[beq_iff_eq.1 DD];rfl))) (aa.nil _)))))))) sl)
          . trivial
         .
          refine TT.region (.U hT 2 rfl (.nil (.cut (()) ?_ (aa.cons rfl (aa.cons rfl (aa.cons rfl (aa.cons rfl (aa.cons rfl (aa.cons rfl (aa.aD rfl (by(try dsimp only);exact(congrArg Value.bool (by have k3:=beq_eq_false_iff_ne.1 DD;rw[Bool.eq_iff_iff];simp[k3]))) (aa.nil _)))))))) sl)))
          . trivial
        .
         rintro _ hI
         show TT _ _ _ [(0,.slice a0 ops.length c0),(4,.pointer (some ⟨b1,0,none⟩)),(5,.pointer (some ⟨iy,0,none⟩)),(6,.int .i64 (i:Nat)),(7,.pointer (some ⟨ni,0,none⟩)),(8,.bool (iY (ay x).aV)),(199,.bool (decide ((ay x).kind=3\/(ay x).kind=4)))] ([(ni,blk (cv (ay x)) 56 (0,0))]::[(iy,blk [wd,.slice a2 ow.length c2] 65 (0,0))]::KD::KO::HS::hs)
         refine TT.cond rfl (fun DD=> ?_) (fun DD=> ?_)
         .
          refine TT.seq (.region (.U hT 2 rfl (.nil (.seq (.seq (.seq (.region (.U hT 1 rfl (.load rfl rfl (Ld.one hT rfl hz rfl) rfl ?_)))))))))
          refine OT.U hT 1 rfl (.nil (.seq (.cond rfl (fun yR=> ?_) (fun yR=> ?_))))
          .
           have yR:=beq_iff_eq.1 yR
           refine TT.region (.U hT 2 rfl (.load rfl rfl (Ld.one hT rfl hz rfl) rfl ?_))
           refine OT.call Tryz.call18 rfl rfl rfl rfl (ax.pull pl (Ar hS (t:=(ay x).aV))) ?_
           rintro TX Rb ⟨Jh,g6,n6,e6,rfl,rfl,HO,PU⟩
           have iW:=hB.ends hS.good.fl (ay x).aV ((ay x).kind==3)
           rw[show qO ((ay x).kind==3)=cR by rw[yR];rfl]at iW
           obtain⟨hI,rfl,rfl,rfl⟩|⟨hI,rfl,rfl,PV⟩:=PU
           .
            rw[hI]
            refine OT.U hT 5 rfl (.nil (.seq (.seq (.region (.U hT 5 rfl (.U hT 3 rfl (.U hT 3 rfl (.U hT 6 rfl (.U hT 2 rfl (.U hT 11 rfl (.nil (.seq (.cond_false rfl (.skip (.blk (.cut (wd,.slice a2 ow.length c2,KD,KO,d,ow,Jh,g6) ?_ (aa.cons rfl (aa.cons rfl (aa.cons rfl (aa.cons rfl (aa.nil _))))) sl))))))))))))))))
            . dsimp only
              exact⟨HO,hB,by omega,qj,gN⟩
           .
            rw[xm hI]at iW
            rw[hI,iW.2]
            refine OT.U hT 5 rfl (.nil (.seq (.seq (.region (.U hT 5 rfl (.U hT 3 rfl (.U hT 11 rfl (.U hT 3 rfl (.load rfl rfl (Ld.one hT rfl hz rfl) rfl ?_)))))))))
            refine OT.U hT 1 rfl (.load rfl rfl (Ld.one hT rfl hz rfl) rfl ?_)
            refine OT.U hT 1 rfl (.call Tryz.call34 rfl rfl rfl rfl (ax.weaken sl (m7 (hs:=Jh::[(ni,blk (cv (ay x)) 56 (0,0))]::hs) (t:=(ay x).aV) (cm:=(ay x).kind==3) qj gN hB.fq yj (by omega))) ?_)
            rintro N_ Lh ⟨w7,o7,D7,O7,rfl,rfl,DE,DF⟩
            refine OT.U hT 3 rfl (.nil (.seq (.cond rfl (fun DG=> ?_) (fun DG=> ?_))))
            .
             exact absurd DG (by simp)
            .
             refine TT.skip (.blk (.cut (w7,o7,D7,O7,fB d ow (ay x).aV ((ay x).kind==3),kE ow (ay x).aV,Jh,g6) ?_ (aa.cons rfl (aa.cons rfl (aa.cons rfl (aa.cons rfl (aa.nil _))))) sl))
             . dsimp only
               exact⟨HO,by rw[PV];exact iW.1,by have:=lY ow (ay x).aV;omega,DE,DF⟩
          .
           have yR:=beq_eq_false_iff_ne.1 yR
           refine TT.region (.U hT 2 rfl (.load rfl rfl (Ld.one hT rfl hz rfl) rfl ?_))
           refine OT.call Tryz.call27 rfl rfl rfl rfl (ax.pull pl (FD hS (t:=(ay x).aV))) ?_
           rintro TY Rc ⟨Jh,g6,n6,e6,rfl,rfl,HO,PU⟩
           have iW:=hB.ends hS.good.fl (ay x).aV ((ay x).kind==3)
           rw[show qO ((ay x).kind==3)=ez by rw[beq_eq_false_iff_ne.2 yR];rfl]at iW
           obtain⟨hI,rfl,rfl,rfl⟩|⟨hI,rfl,rfl,PV⟩:=PU
           .
            rw[hI]
            refine OT.U hT 5 rfl (.nil (.seq (.seq (.region (.U hT 5 rfl (.U hT 3 rfl (.U hT 3 rfl (.U hT 6 rfl (.U hT 2 rfl (.U hT 11 rfl (.nil (.seq (.cond_false rfl (.skip (.blk (.cut (wd,.slice a2 ow.length c2,KD,KO,d,ow,Jh,g6) ?_ (aa.cons rfl (aa.cons rfl (aa.cons rfl (aa.cons rfl (aa.nil _))))) sl))))))))))))))))
            . dsimp only
              exact⟨HO,hB,by omega,qj,gN⟩
           .
            rw[xm hI]at iW
            rw[hI,iW.2]
            refine OT.U hT 5 rfl (.nil (.seq (.seq (.region (.U hT 5 rfl (.U hT 3 rfl (.U hT 11 rfl (.U hT 3 rfl (.load rfl rfl (Ld.one hT rfl hz rfl) rfl ?_)))))))))
            refine OT.U hT 1 rfl (.load rfl rfl (Ld.one hT rfl hz rfl) rfl ?_)
            refine OT.U hT 1 rfl (.call Tryz.call34 rfl rfl rfl rfl (ax.weaken sl (m7 (hs:=Jh::[(ni,blk (cv (ay x)) 56 (0,0))]::hs) (t:=(ay x).aV) (cm:=(ay x).kind==3) qj gN hB.fq yj (by omega))) ?_)
            rintro N_ Lh ⟨w7,o7,D7,O7,rfl,rfl,DE,DF⟩
            refine OT.U hT 3 rfl (.nil (.seq (.cond rfl (fun DG=> ?_) (fun DG=> ?_))))
            .
             exact absurd DG (by simp)
            .
             refine TT.skip (.blk (.cut (w7,o7,D7,O7,fB d ow (ay x).aV ((ay x).kind==3),kE ow (ay x).aV,Jh,g6) ?_ (aa.cons rfl (aa.cons rfl (aa.cons rfl (aa.cons rfl (aa.nil _))))) sl))
             . dsimp only
               exact⟨HO,by rw[PV];exact iW.1,by have:=lY ow (ay x).aV;omega,DE,DF⟩
         .
          refine TT.seq (.region (.U hT 1 rfl (.call Tryz.call23 rfl rfl rfl rfl (ax.pull pl (FC hS)) ?_)))
          rintro Wl TZ ⟨Sm,g8,rfl,rfl,Vv,Vw⟩
          have iW:=hB.ends hS.good.fl 0 false
          rw[Cz]at iW
          rw[iW.2]
          refine OT.U hT 5 rfl (.nil (.seq (.seq (.region (.U hT 3 rfl (.U hT 2 rfl (.call Tryz.call34 rfl rfl rfl rfl (ax.weaken sl (m7 (hs:=Sm::[(ni,blk (cv (ay x)) 56 (0,0))]::hs) (t:=0) (cm:=false) qj gN hB.fq yj (by omega))) ?_)))))))
          rintro Wm T0 ⟨w7,o7,D7,O7,rfl,rfl,DE,DF⟩
          refine OT.U hT 2 rfl (.nil (.seq (.cond rfl (fun Sn=> ?_) (fun Sn=> ?_))))
          .
           exact absurd Sn (by simp)
          .
           refine TT.skip (.blk (.cut (w7,o7,D7,O7,fB d ow 0 false,kE ow 0,Sm,g8) ?_ (aa.cons rfl (aa.cons rfl (aa.cons rfl (aa.cons rfl (aa.nil _))))) sl))
           . dsimp only
             exact⟨Vv,by rw[Vw];exact iW.1,by have:=lY ow 0;omega,DE,DF⟩
    .
     rintro⟨w2,o2,D2,O2,d2,Vx,H2,g2⟩ hI
     dsimp only at hI
     obtain⟨hU,So,QO,sK,MX⟩:=hI
     show TT _ _ _ [(0,.slice a0 ops.length c0),(4,.pointer (some ⟨b1,0,none⟩)),(5,.pointer (some ⟨iy,0,none⟩)),(6,.int .i64 (i:Nat))] ([(iy,blk [w2,o2] 65 (0,0))]::D2::O2::H2::hs)
     refine TT.seq (.region (.U hT 2 rfl (.bU Tryz.underlying24 rfl rfl rfl rfl (.call Tryz.call35 rfl rfl rfl rfl (ax.pull pl (As hU So hz (Row.mono (sK.row (hs:=hs)) fun b o hb=>Has.ic sl hb) (Row.mono (MX.row (hs:=hs)) fun b o hb=>Has.ic sl hb) (by omega))) ?_))))
     rintro T1 Re ⟨Vy,rfl,rfl,Vz⟩
     refine OT.U hT 1 rfl (.nil (.seq (.cond_false rfl (.skip (.blk (.seq (.region (.U hT 3 rfl (.nil (.loop (i+1,w2,o2,D2,O2,d2,Vx,Vy,g2) ?_ ?_ (aa.cons rfl (aa.cons rfl (aa.cons rfl (aa.aD rfl (by(try dsimp only);exact(int_eq (by rw[wrap_i64 (by omega) (by omega)];omega))) (aa.nil _))))) sl))))))))))
     . dsimp only
       exact⟨by omega,Vz,So,QO,sK,MX⟩
     . dsimp only
       omega
  .
   have Mf:=of_decide_eq_false Mf
   refine TT.exit (.seq (.loop (.here (.seq (.seq (.region (.U hT 1 rfl (.nil (.seq (.ret (.of (rs:=[.tmp 2]) [_] hs rfl (.tmp rfl .nil) sl ?_)))))))))))
   try dsimp only[one]
   exact⟨rfl,rfl⟩
 .
  refine OT.U hT 3 rfl (.nil (.seq (.cond_false rfl (.exit (.seq (.loop (.here (.seq (.seq (.region (.U hT 1 rfl (.nil (.seq (.ret (.of (rs:=[.tmp 2]) [_] hs rfl (.tmp rfl .nil) sl ?_)))))))))))))))
  try dsimp only[one]
  exact⟨rfl,rfl⟩
end Go.Proofs.YtihpkgmfkbkffaaGreat.Sx
end
