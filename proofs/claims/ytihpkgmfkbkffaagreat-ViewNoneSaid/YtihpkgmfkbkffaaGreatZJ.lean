/- Several texts in one. Two versions: seen, written, ended. Printed by a program of ours off the loaded program and our notes; Lean checks it. Trees of two versions read on any pages; a snapshot's pages opened. Printed by a program of ours off the loaded program and our notes; Lean checks it. Two versions: what a transaction wrote ends. Printed by a program of ours off the loaded program and our notes; Lean checks it. The laws' beginning. Printed by a program of ours off the loaded program and our notes; Lean checks it. What the laws of two versions are made of. Printed by a program of ours off the loaded program and our notes; Lean checks it. Laws of views: the beginning; no view. Printed by a program of ours off the loaded program and our notes; Lean checks it. Laws of views: each page as the snapshot shows it. Printed by a program of ours off the loaded program and our notes; Lean checks it. Laws of views: a snapshot opened by its name. Printed by a program of ours off the loaded program and our notes; Lean checks it. -/
import Derived.Test.YtihpkgmfkbkffaaGreatZI
import Derived.Test.YtihpkgmfkbkffaaGreatZB
import Derived.Test.YtihpkgmfkbkffaaGreatZG
import Derived.Test.YtihpkgmfkbkffaaGreatZE
import Derived.Test.YtihpkgmfkbkffaaGreatZF
set_option linter.unusedVariables false
set_option linter.unusedSimpArgs false
set_option linter.unusedSectionVars false
section
namespace Go.Proofs.YtihpkgmfkbkffaaGreat.Sx
open Go Go.Sx Go.Pl
variable[au]
set_option maxHeartbeats 1000000 in
set_option maxRecDepth 100000 in
theorem Mb{x:Cell}{t:Int}{hs:List Chunk}:aA Tryz.prog 61 [.agg ⟨aj x⟩,.int .i64 t] hs (fun v' hs'=>v'= .agg ⟨dw (qD x t)⟩/\hs=hs'):=by
 refine aA.enter 17 Tryz.func61 rfl Tryz.ntmps61 rfl ?_
 refine TT.seq (.region (.box rfl rfl rfl (fun b_2=> ?_)))
 refine OT.alloc Tryz.zeroValue36 rfl rfl (fun nW=> ?_)
 refine OT.nil (.seq (.seq (.seq (.region (.U hT 3 rfl (.split 7 rfl (fun g7=> ?_) (fun g7=> ?_)))))))
 .
  have g7:0<t:=of_decide_eq_true g7
  refine OT.U hT 1 rfl (.load rfl rfl (Ld.one hT rfl hz rfl) rfl ?_)
  refine OT.U hT 3 rfl (.nil (.seq (.cond rfl (fun fu=> ?_) (fun fu=> ?_))))
  .
   have fu:x.cg=t:=eq_of_beq fu
   refine TT.seq (.region (.U hT 1 rfl (.load rfl rfl (Ld.struct (vs:=dw (x).new) hT rfl hz rfl rfl) rfl ?_)))
   refine OT.ag hT rfl rfl rfl rfl pl rfl rfl rfl (.inl (Nat.le_refl _)) ?_
   refine OT.nil (.seq (.ret (.of (rs:=[.cell 4 36]) [_] hs rfl (.cell rfl (Ld.af hT rfl hz rfl) .nil) sl ?_)))
   try dsimp only[one]
   exact⟨by unfold qD;rw[if_pos ⟨g7,fu⟩];rfl,rfl⟩
  .
   have fu:¬x.cg=t:=fun h=>by rw[h]at fu;simp at fu
   refine TT.skip (.seq (.seq (.region (.U hT 1 rfl (.load rfl rfl (Ld.struct (vs:=dw (x).val) hT rfl hz rfl rfl) rfl ?_)))))
   refine OT.ag hT rfl rfl rfl rfl pl rfl rfl rfl (.inl (Nat.le_refl _)) ?_
   refine OT.nil (.seq (.ret (.of (rs:=[.cell 4 36]) [_] hs rfl (.cell rfl (Ld.af hT rfl hz rfl) .nil) sl ?_)))
   try dsimp only[one]
   exact⟨by unfold qD;rw[if_neg (fun h=>fu h.2)];rfl,rfl⟩
 .
  have g7:¬0<t:=of_decide_eq_false g7
  refine OT.U hT 5 rfl (.nil (.seq (.cond_false rfl (.skip (.seq (.seq (.region (.U hT 1 rfl (.load rfl rfl (Ld.struct (vs:=dw (x).val) hT rfl hz rfl rfl) rfl ?_)))))))))
  refine OT.ag hT rfl rfl rfl rfl pl rfl rfl rfl (.inl (Nat.le_refl _)) ?_
  refine OT.nil (.seq (.ret (.of (rs:=[.cell 4 36]) [_] hs rfl (.cell rfl (Ld.af hT rfl hz rfl) .nil) sl ?_)))
  try dsimp only[one]
  exact⟨by unfold qD;rw[if_neg (fun h=>g7 h.1)];rfl,rfl⟩
set_option maxHeartbeats 1000000 in
set_option maxRecDepth 100000 in
theorem jO{x:Cell}{t:Int}{v:Vl}{hs:List Chunk}:aA Tryz.prog 55 [.agg ⟨aj x⟩,.int .i64 t,.agg ⟨dw v⟩] hs (fun v' hs'=>v'= .agg ⟨aj ⟨x.key,x.val,t,v⟩⟩/\hs=hs'):=by
 refine aA.enter 12 Tryz.func55 rfl Tryz.ntmps55 rfl ?_
 refine TT.seq (.region (.box rfl rfl rfl (fun pG=> ?_)))
 refine OT.box rfl rfl rfl (fun g_=> ?_)
 refine OT.alloc Tryz.zeroValue113 rfl rfl (fun eG=> ?_)
 refine OT.nil (.seq (.seq (.draw (hs) mixed (.takes (fuel:=4) hT [0,2] kr kr rfl (.all (fuel:=3) [1,3] kr (by decide) sl ?_)))))
 intro i hi
 simp only[List.mem_cons,List.not_mem_nil,or_false]at hi
 rcases hi with rfl|rfl
 .
  refine⟨_,rfl,?_⟩
  refine OT.load rfl rfl (Ld.af hT rfl hz rfl) rfl ?_
  refine OT.nil (.any (.op (fuel:=2) 3 kr rfl sl (.store hT rfl rfl rfl rfl pl rfl (Nat.le_of_ble_eq_true rfl) rfl (.inl (Nat.le_refl _)) rfl ?_)))
  refine OT.nil (.any (.takes (fuel:=1) hT [4] kr kr rfl (.op (fuel:=0) 5 kr rfl sl (.store hT rfl rfl rfl rfl pl rfl (Nat.le_of_ble_eq_true rfl) rfl (.inl (Nat.le_refl _)) rfl ?_))))
  refine OT.nil (.any (.done kr sl (.seq (.seq (.region (.load rfl rfl (Ld.af hT rfl hz rfl) rfl ?_))))))
  refine OT.ag hT rfl rfl rfl rfl pl rfl rfl rfl (.inl (Nat.le_refl _)) ?_
  refine OT.nil (.seq (.ret (.of (rs:=[.cell 6 113]) [_] hs rfl (.cell rfl (Ld.af hT rfl hz rfl) .nil) sl ?_)))
  try dsimp only[one]
  exact⟨rfl,rfl⟩
 .
  refine⟨_,rfl,?_⟩
  refine OT.store hT rfl rfl rfl rfl pl rfl (Nat.le_of_ble_eq_true rfl) rfl (.inl (Nat.le_refl _)) rfl ?_
  refine OT.nil (.any (.op (fuel:=2) 1 kr rfl sl (.load rfl rfl (Ld.af hT rfl hz rfl) rfl ?_)))
  refine OT.nil (.any (.takes (fuel:=1) hT [4] kr kr rfl (.op (fuel:=0) 5 kr rfl sl (.store hT rfl rfl rfl rfl pl rfl (Nat.le_of_ble_eq_true rfl) rfl (.inl (Nat.le_refl _)) rfl ?_))))
  refine OT.nil (.any (.done kr sl (.seq (.seq (.region (.load rfl rfl (Ld.af hT rfl hz rfl) rfl ?_))))))
  refine OT.ag hT rfl rfl rfl rfl pl rfl rfl rfl (.inl (Nat.le_refl _)) ?_
  refine OT.nil (.seq (.ret (.of (rs:=[.cell 6 113]) [_] hs rfl (.cell rfl (Ld.af hT rfl hz rfl) .nil) sl ?_)))
  try dsimp only[one]
  exact⟨rfl,rfl⟩
def xU(c:Cell):Cell×Bool:=if c.val.kind=0 then(noCell,false)else(c,true)
set_option maxHeartbeats 1000000 in
set_option maxRecDepth 100000 in
theorem I5{x:Cell}{hs:List Chunk}:aA Tryz.prog 113 [.agg ⟨aj x⟩] hs (fun v' hs'=>v'= .tuple ⟨[.agg ⟨aj (xU x).1⟩,.bool (xU x).2]⟩/\hs=hs'):=by
 refine aA.enter 9 Tryz.func113 rfl Tryz.ntmps113 rfl ?_
 refine TT.seq (.region (.box rfl rfl rfl (fun b_1=> ?_)))
 refine OT.alloc Tryz.zeroValue113 rfl rfl (fun b_2=> ?_)
 refine OT.U hT 1 rfl (.nil (.seq (.seq (.seq (.region (.U hT 1 rfl (.load rfl rfl (Ld.struct (vs:=dw (x).val) hT rfl hz rfl rfl) rfl ?_)))))))
 refine OT.call Tryz.call140 rfl rfl rfl rfl (wo) ?_
 rintro Ms zE ⟨rfl,rfl⟩
 refine OT.nil (.seq (.cond rfl (fun c6=> ?_) (fun c6=> ?_)))
 .
  have c6:x.val.kind=0:=of_decide_eq_true c6
  refine TT.seq (.region (.build (cs:=aj noCell) hT rfl Tryz.zeroValue113 rfl rfl rfl rfl (.ag hT rfl rfl rfl rfl pl rfl rfl rfl (.inl (Nat.le_refl _)) ?_)))
  refine OT.U hT 1 rfl (.nil (.seq (.ret (.of (rs:=[.cell 2 113,.tmp 3]) [_,_] hs rfl (.cell rfl (Ld.af hT rfl hz rfl) (.tmp rfl .nil)) sl ?_))))
  try dsimp only[one]
  exact⟨by unfold xU;rw[if_pos c6];rfl,rfl⟩
 .
  have c6:¬x.val.kind=0:=of_decide_eq_false c6
  refine TT.skip (.seq (.seq (.region (.load rfl rfl (Ld.af hT rfl hz rfl) rfl ?_))))
  refine OT.ag hT rfl rfl rfl rfl pl rfl rfl rfl (.inl (Nat.le_refl _)) ?_
  refine OT.U hT 1 rfl (.nil (.seq (.ret (.of (rs:=[.cell 2 113,.tmp 3]) [_,_] hs rfl (.cell rfl (Ld.af hT rfl hz rfl) (.tmp rfl .nil)) sl ?_))))
  try dsimp only[one]
  exact⟨by unfold xU;rw[if_neg c6];rfl,rfl⟩
set_option maxHeartbeats 1000000 in
set_option maxRecDepth 100000 in
theorem Cz{x:Cell}{hs:List Chunk}:aA Tryz.prog 64 [.agg ⟨aj x⟩] hs (fun v' hs'=>v'= .tuple ⟨[.agg ⟨aj (gT x).1⟩,.bool (gT x).2]⟩/\hs=hs'):=by
 refine aA.enter 11 Tryz.func64 rfl Tryz.ntmps64 rfl ?_
 refine TT.seq (.region (.box rfl rfl rfl (fun b_1=> ?_)))
 refine OT.alloc Tryz.zeroValue113 rfl rfl (fun b_2=> ?_)
 refine OT.U hT 1 rfl (.nil (.seq (.seq (.region (.build (cs:=dw bq) hT rfl Tryz.zeroValue36 rfl rfl rfl rfl (.U hT 1 rfl (.store hT rfl rfl rfl rfl pl rfl (Nat.le_of_ble_eq_true rfl) rfl (.inl (Nat.le_refl _)) rfl ?_)))))))
 refine OT.U hT 1 rfl (.store hT rfl rfl rfl rfl pl rfl (Nat.le_of_ble_eq_true rfl) rfl (.inl (Nat.le_refl _)) rfl ?_)
 refine OT.nil (.seq (.seq (.region (.load rfl rfl (Ld.af (cs:=aj {x with cg:=0,new:=bq}) hT rfl hz rfl) rfl ?_))))
 refine OT.call Tryz.call113 rfl rfl rfl rfl (I5 (x:={x with cg:=0,new:=bq})) ?_
 rintro Ed rJ ⟨rfl,rfl⟩
 refine OT.U hT 2 rfl (.ag hT rfl rfl rfl rfl pl rfl rfl rfl (.inl (Nat.le_refl _)) ?_)
 refine OT.U hT 1 rfl (.nil (.seq (.ret (.of (rs:=[.cell 2 113,.tmp 3]) [_,_] hs rfl (.cell rfl (Ld.af hT rfl hz rfl) (.tmp rfl .nil)) sl ?_))))
 try dsimp only[one]
 refine⟨?_,rfl⟩
 unfold xU gT
 dsimp only
 split<;>rfl
set_option maxHeartbeats 1000000 in
set_option maxRecDepth 100000 in
theorem DZ{x:Cell}{hs:List Chunk}:aA Tryz.prog 59 [.agg ⟨aj x⟩] hs (fun v' hs'=>v'= .tuple ⟨[.agg ⟨aj (dH x).1⟩,.bool (dH x).2]⟩/\hs=hs'):=by
 refine aA.enter 14 Tryz.func59 rfl Tryz.ntmps59 rfl ?_
 refine TT.seq (.region (.box rfl rfl rfl (fun b_1=> ?_)))
 refine OT.alloc Tryz.zeroValue113 rfl rfl (fun b_2=> ?_)
 refine OT.U hT 1 rfl (.nil (.seq (.seq (.seq (.region (.U hT 1 rfl (.load rfl rfl (Ld.one hT rfl hz rfl) rfl ?_)))))))
 refine OT.U hT 1 rfl (.nil (.seq (.cond rfl (fun c6=> ?_) (fun c6=> ?_))))
 .
  have c6:0<x.cg:=of_decide_eq_true c6
  refine TT.region (.U hT 1 rfl (.load rfl rfl (Ld.struct (vs:=dw (x).new) hT rfl hz rfl rfl) rfl ?_))
  refine OT.U hT 1 rfl (.store hT rfl rfl rfl rfl pl rfl (Nat.le_of_ble_eq_true rfl) rfl (.inl (Nat.le_refl _)) rfl ?_)
  refine OT.nil (.seq (.seq (.region (.load rfl rfl (Ld.af (cs:=aj {x with val:=x.new}) hT rfl hz rfl) rfl ?_))))
  refine OT.call Tryz.call64 rfl rfl rfl rfl (Cz (x:={x with val:=x.new})) ?_
  rintro qE kR ⟨rfl,rfl⟩
  refine OT.U hT 2 rfl (.ag hT rfl rfl rfl rfl pl rfl rfl rfl (.inl (Nat.le_refl _)) ?_)
  refine OT.U hT 1 rfl (.nil (.seq (.ret (.of (rs:=[.cell 2 113,.tmp 3]) [_,_] hs rfl (.cell rfl (Ld.af hT rfl hz rfl) (.tmp rfl .nil)) sl ?_))))
  try dsimp only[one]
  exact⟨by unfold dH;rw[if_pos c6];rfl,rfl⟩
 .
  have c6:¬0<x.cg:=of_decide_eq_false c6
  refine TT.skip (.seq (.seq (.region (.load rfl rfl (Ld.af hT rfl hz rfl) rfl ?_))))
  refine OT.call Tryz.call64 rfl rfl rfl rfl (Cz (x:=x)) ?_
  rintro qE kR ⟨rfl,rfl⟩
  refine OT.U hT 2 rfl (.ag hT rfl rfl rfl rfl pl rfl rfl rfl (.inl (Nat.le_refl _)) ?_)
  refine OT.U hT 1 rfl (.nil (.seq (.ret (.of (rs:=[.cell 2 113,.tmp 3]) [_,_] hs rfl (.cell rfl (Ld.af hT rfl hz rfl) (.tmp rfl .nil)) sl ?_))))
  try dsimp only[one]
  exact⟨by unfold dH;rw[if_neg c6];rfl,rfl⟩
set_option maxHeartbeats 1000000 in
set_option maxRecDepth 100000 in
theorem JS{t:Int}{hs:List Chunk}:aA Tryz.prog 50 [.int .i64 t] hs (fun v' hs'=>v'= .bool (vH t)/\hs=hs'):=by
 refine aA.enter 9 Tryz.func50 rfl Tryz.ntmps50 rfl ?_
 refine TT.seq (.region (.U hT 1 rfl (.nil (.seq (.seq (.region (.U hT 3 rfl (.split 5 rfl (fun g5=> ?_) (fun g5=> ?_)))))))))
 .
  refine OT.U hT 4 rfl (.nil (.seq (.ret (.of (rs:=[.tmp 2]) [_] hs rfl (.tmp rfl .nil) sl ?_))))
  try dsimp only[one]
  refine⟨congrArg Value.bool ?_,rfl⟩
  unfold vH
  rw[show decide (1<=t)=true from g5,Bool.true_and]
 .
  refine OT.U hT 4 rfl (.nil (.seq (.ret (.of (rs:=[.tmp 2]) [_] hs rfl (.tmp rfl .nil) sl ?_))))
  try dsimp only[one]
  refine⟨congrArg Value.bool ?_,rfl⟩
  unfold vH
  rw[show decide (1<=t)=false from g5,Bool.false_and]
set_option maxHeartbeats 1000000 in
set_option maxRecDepth 100000 in
theorem Mc{P:Value}{I:Chunk->Prop}{Qb:ah}(hP:cW Tryz.prog 5 P I (fun _ _=>False) (aK Qb))(hQ:cQ Qb){b:Nat}{g:aG}{H:Chunk}{r:List Chunk}(hH:gi 110 b P I Qb g H){t:Int}{k:ByteArray}:aA Tryz.prog 20 [.iface 24 (.pointer (some ⟨b,0,none⟩)),.int .i64 t,.string k] (H::r) (fun v' hs'=>∃H',hs'=H'::r/\v'= .tuple ⟨[.agg ⟨dw (tv g.2 t k)⟩,.int .i64 0]⟩/\gi 110 b P I Qb g H'):=by
 refine aA.enter 29 Tryz.func20 rfl Tryz.ntmps20 rfl ?_
 refine TT.seq (.region (.alloc Tryz.zeroValue36 rfl rfl (fun eG=> ?_)))
 refine OT.U hT 1 rfl (.nil (.seq (.seq (.region (.U hT 2 rfl (.call Tryz.call53 rfl rfl rfl rfl (aA.pull pl (Fx hP hQ hH (k:=k))) ?_))))))
 rintro CL ur ⟨H1,rfl,rfl,tJ⟩
 have Rc:tv g.2 t k=match cz g.2 k with|some c=>qD c t|none=>bq:=rfl
 generalize cz g.2 k=o at Rc⊢
 rcases o with _|z
 .
  refine OT.U hT 4 rfl (.alloc Tryz.zeroValue113 rfl rfl (fun fH=> ?_))
  refine OT.ag hT rfl rfl rfl rfl pl rfl rfl rfl (.inl (Nat.le_refl _)) ?_
  refine OT.U hT 2 rfl (.nil (.seq (.seq (.seq (.region (.U hT 3 rfl (.U hT 3 rfl (.nil (.seq (.cond_true rfl (.seq (.region (.build (cs:=dw bq) hT rfl Tryz.zeroValue36 rfl rfl rfl rfl (.U hT 1 rfl (.ag hT rfl rfl rfl rfl pl rfl rfl rfl (.inl (Nat.le_refl _)) ?_)))))))))))))))
  refine OT.U hT 1 rfl (.nil (.seq (.ret (.of (rs:=[.cell 6 36,.tmp 7]) [_,_] (H1::r) rfl (.cell rfl (Ld.af hT rfl hz rfl) (.tmp rfl .nil)) sl ?_))))
  try dsimp only[one]
  exact⟨H1,rfl,by rw[Rc];rfl,tJ⟩
 .
  refine OT.U hT 4 rfl (.alloc Tryz.zeroValue113 rfl rfl (fun fH=> ?_))
  refine OT.ag hT rfl rfl rfl rfl pl rfl rfl rfl (.inl (Nat.le_refl _)) ?_
  refine OT.U hT 2 rfl (.nil (.seq (.seq (.seq (.region (.U hT 3 rfl (.U hT 3 rfl (.nil (.seq (.cond_false rfl (.skip (.seq (.seq (.region (.load rfl rfl (Ld.af (cs:=aj z) hT rfl hz rfl) rfl ?_)))))))))))))))
  refine OT.U hT 1 rfl (.call Tryz.call61 rfl rfl rfl rfl (Mb (x:=z)) ?_)
  rintro SC Pp ⟨rfl,rfl⟩
  refine OT.ag hT rfl rfl rfl rfl pl rfl rfl rfl (.inl (Nat.le_refl _)) ?_
  refine OT.U hT 1 rfl (.nil (.seq (.ret (.of (rs:=[.cell 6 36,.tmp 7]) [_,_] (H1::r) rfl (.cell rfl (Ld.af hT rfl hz rfl) (.tmp rfl .nil)) sl ?_))))
  try dsimp only[one]
  exact⟨H1,rfl,by rw[Rc];rfl,tJ⟩
set_option maxHeartbeats 2000000 in
set_option maxRecDepth 100000 in
theorem Gz{P:Value}{I:Chunk->Prop}{Qb:ah}(hP:cW Tryz.prog 5 P I (fun _ _=>False) (aK Qb))(hQ:cQ Qb){b:Nat}{g:aG}{H:Chunk}{r:List Chunk}(hH:gi 110 b P I Qb g H){t:Int}{k:ByteArray}{v:Vl}(Jn:v.f<2^64):aA Tryz.prog 16 [.pointer (some ⟨b,0,none⟩),.int .i64 t,.string k,.agg ⟨dw v⟩] (H::r) (fun v' hs'=>∃H' g' e,hs'=H'::r/\v'= .int .i64 e/\gi 110 b P I Qb g' H'/\lu t k v g g' e):=by
 refine aA.enter 77 Tryz.func16 rfl Tryz.ntmps16 rfl ?_
 have hgd:=hH.good
 refine TT.seq (.region (.box rfl rfl rfl (fun Mu=> ?_)))
 refine OT.U hT 1 rfl (.nil (.seq (.seq (.seq (.region (.U hT 1 rfl (.call Tryz.call50 rfl rfl rfl rfl (JS) ?_)))))))
 rintro xd BB ⟨rfl,rfl⟩
 refine OT.U hT 2 rfl (.split 15 rfl (fun Re=> ?_) (fun Re=> ?_))
 .
  have h1:vH t=false:=by simpa using Re
  refine OT.U hT 9 rfl (.nil (.seq (.cond_true rfl (.seq (.region (.U hT 1 rfl (.nil (.seq (.ret (.of (rs:=[.tmp 8]) [_] (H::r) rfl (.tmp rfl .nil) sl ?_))))))))))
  try dsimp only[one]
  exact⟨H,g,1,rfl,rfl,hH,.inl ⟨by first|exact .inl h1|exact .inr (.inl h2)|exact .inr (.inr h3),rfl,rfl⟩⟩
 .
  have h1:vH t=true:=by simpa using Re
  refine OT.U hT 1 rfl (.call Tryz.call51 rfl rfl rfl rfl (Ac) ?_)
  rintro CJ BF ⟨rfl,rfl⟩
  refine OT.U hT 3 rfl (.split 20 rfl (fun Eg=> ?_) (fun Eg=> ?_))
  .
   have h2:bP k=false:=by simpa using Eg
   refine OT.U hT 4 rfl (.nil (.seq (.cond_true rfl (.seq (.region (.U hT 1 rfl (.nil (.seq (.ret (.of (rs:=[.tmp 8]) [_] (H::r) rfl (.tmp rfl .nil) sl ?_))))))))))
   try dsimp only[one]
   exact⟨H,g,1,rfl,rfl,hH,.inl ⟨by first|exact .inl h1|exact .inr (.inl h2)|exact .inr (.inr h3),rfl,rfl⟩⟩
  .
   have h2:bP k=true:=by simpa using Eg
   refine OT.load rfl rfl (Ld.af hT rfl hz rfl) rfl ?_
   refine OT.call Tryz.call52 rfl rfl rfl rfl (pU) ?_
   rintro CM uu ⟨rfl,rfl⟩
   refine OT.U hT 2 rfl (.nil (.seq (.cond rfl (fun tc=> ?_) (fun tc=> ?_))))
   .
    have h3:bT v=false:=by simpa using tc
    refine TT.seq (.region (.U hT 1 rfl (.nil (.seq (.ret (.of (rs:=[.tmp 8]) [_] (H::r) rfl (.tmp rfl .nil) sl ?_))))))
    try dsimp only[one]
    exact⟨H,g,1,rfl,rfl,hH,.inl ⟨by first|exact .inl h1|exact .inr (.inl h2)|exact .inr (.inr h3),rfl,rfl⟩⟩
   .
    have h3:bT v=true:=by simpa using tc
    have hok:=And.intro h1 (And.intro h2 h3)
    refine TT.skip (.seq (.seq (.region (.U hT 1 rfl (.bO Tryz.underlying24 rfl rfl rfl rfl (.U hT 1 rfl (.call Tryz.call53 rfl rfl rfl rfl (aA.pull pl (Fx hP hQ hH (k:=k))) ?_)))))))
    rintro vv qt ⟨H1,rfl,rfl,tJ⟩
    have Nf:kQ g.2 t k↔∃c,cz g.2 k=some c/\c.cg≠0/\c.cg≠t:=Iff.rfl
    have hkp:ez g.2 k v↔v.kind≠0\/((cz g.2 k).getD noCell).val.kind≠0:=Iff.rfl
    have BS:(xu g.2 t k v)=⟨k,((cz g.2 k).getD noCell).val,t,v⟩:=rfl
    have hno:cz g.2 k=none->iq g.2 k=g.2:=fun h=>uT fun c hc e=>by
     have:=(ff hH.small.2.2.1).1 hc
     rw[e,h]at this;cases this
    generalize cz g.2 k=o at Nf hkp BS hno⊢
    rcases o with _|z
    .
     have hnb:¬kQ g.2 t k:=fun h=>by obtain⟨c,hc,_⟩:=Nf.1 h;cases hc
     refine OT.U hT 4 rfl (.alloc Tryz.zeroValue113 rfl rfl (fun gR=> ?_))
     refine OT.ag hT rfl rfl rfl rfl pl rfl rfl rfl (.inl (Nat.le_refl _)) ?_
     refine OT.U hT 2 rfl (.nil (.seq (.seq (.block (.seq (.region (.U hT 3 rfl (.nil (.seq (.cond_false rfl (.seq (.region (.U hT 2 rfl (.U hT 11 rfl (.nil (.seq (.cond_false rfl (.seq (.region (.U hT 1 rfl (.load rfl rfl (Ld.one hT rfl hz rfl) rfl ?_)))))))))))))))))))))
     refine OT.U hT 2 rfl (.split 54 rfl (fun lY=> ?_) (fun lY=> ?_))
     .
      have lY:v.kind≠0:=by simpa using lY
      have hk:ez g.2 k v:=hkp.2 (.inl lY)
      refine OT.U hT 6 rfl (.nil (.seq (.cond_true rfl (.seq (.region (.U hT 2 rfl (.store hT rfl rfl rfl rfl pl rfl (Nat.le_of_ble_eq_true rfl) rfl (.inl (Nat.le_refl _)) rfl ?_)))))))
      refine OT.nil (.seq (.seq (.region (.U hT 1 rfl (.load rfl rfl (Ld.af (cs:=aj ⟨k,bq,0,bq⟩) hT rfl hz rfl) rfl ?_)))))
      refine OT.U hT 1 rfl (.load rfl rfl (Ld.af hT rfl hz rfl) rfl ?_)
      refine OT.call Tryz.call55 rfl rfl rfl rfl (jO (x:=⟨k,bq,0,bq⟩)) ?_
      rintro EL xV ⟨rfl,rfl⟩
      refine OT.call Tryz.call54 rfl rfl rfl rfl (aA.pull pl (pX hP hQ tJ (x:=⟨k,bq,t,v⟩) (by have h:=pT (t:=t) (k:=k) hgd Jn;rw[BS]at h;exact h))) ?_
      rintro CO xW ⟨H2,g2,e2,rfl,rfl,Er,hp⟩
      rw[show(⟨k,bq,t,v⟩:Cell)=(xu g.2 t k v)from BS.symm]at hp
      have hq:=mg (mh hgd hok) hp
      refine OT.U hT 1 rfl (.nil (.seq (.ret (.of (rs:=[.tmp 8]) [_] (H2::r) rfl (.tmp rfl .nil) sl ?_))))
      try dsimp only[one]
      refine⟨H2,g2,e2,rfl,rfl,Er,?_⟩
      rcases hq with⟨rfl,h⟩|⟨rfl,rfl,_,h⟩
      . exact .inr (.inr (.inl ⟨hok,hnb,rfl,by rw[if_pos hk];exact h⟩))
      . exact .inr (.inr (.inr ⟨hok,hnb,rfl,rfl,h,hk⟩))
     .
      have lY:v.kind=0:=by simpa using lY
      refine OT.U hT 2 rfl (.load rfl rfl (Ld.one hT rfl hz rfl) rfl ?_)
      refine OT.U hT 3 rfl (.nil (.seq (.cond rfl (fun qY=> ?_) (fun qY=> ?_))))
      .
       have hk:ez g.2 k v:=hkp.2 (.inr (by simpa using qY))
       refine TT.seq (.region (.U hT 2 rfl (.store hT rfl rfl rfl rfl pl rfl (Nat.le_of_ble_eq_true rfl) rfl (.inl (Nat.le_refl _)) rfl ?_)))
       refine OT.nil (.seq (.seq (.region (.U hT 1 rfl (.load rfl rfl (Ld.af (cs:=aj ⟨k,bq,0,bq⟩) hT rfl hz rfl) rfl ?_)))))
       refine OT.U hT 1 rfl (.load rfl rfl (Ld.af hT rfl hz rfl) rfl ?_)
       refine OT.call Tryz.call55 rfl rfl rfl rfl (jO (x:=⟨k,bq,0,bq⟩)) ?_
       rintro EL xV ⟨rfl,rfl⟩
       refine OT.call Tryz.call54 rfl rfl rfl rfl (aA.pull pl (pX hP hQ tJ (x:=⟨k,bq,t,v⟩) (by have h:=pT (t:=t) (k:=k) hgd Jn;rw[BS]at h;exact h))) ?_
       rintro CO xW ⟨H2,g2,e2,rfl,rfl,Er,hp⟩
       rw[show(⟨k,bq,t,v⟩:Cell)=(xu g.2 t k v)from BS.symm]at hp
       have hq:=mg (mh hgd hok) hp
       refine OT.U hT 1 rfl (.nil (.seq (.ret (.of (rs:=[.tmp 8]) [_] (H2::r) rfl (.tmp rfl .nil) sl ?_))))
       try dsimp only[one]
       refine⟨H2,g2,e2,rfl,rfl,Er,?_⟩
       rcases hq with⟨rfl,h⟩|⟨rfl,rfl,_,h⟩
       . exact .inr (.inr (.inl ⟨hok,hnb,rfl,by rw[if_pos hk];exact h⟩))
       . exact .inr (.inr (.inr ⟨hok,hnb,rfl,rfl,h,hk⟩))
      .
       have hnk:¬ez g.2 k v:=fun h=>(hkp.1 h).elim (fun h=>h lY) (fun h=>h (by simpa using qY))
       refine TT.seq (.region (.U hT 2 rfl (.nil (.seq (.cond_false rfl (.skip (.blk (.seq (.seq (.region (.U hT 2 rfl (.nil (.seq (.ret (.of (rs:=[.tmp 8]) [_] (H1::r) rfl (.tmp rfl .nil) sl ?_)))))))))))))))
       try dsimp only[one]
       exact⟨H1,g,0,rfl,rfl,tJ,.inr (.inr (.inl ⟨hok,hnb,rfl,by rw[if_neg hnk];exact(hno rfl).symm⟩))⟩
    .
     refine OT.U hT 4 rfl (.alloc Tryz.zeroValue113 rfl rfl (fun gR=> ?_))
     refine OT.ag hT rfl rfl rfl rfl pl rfl rfl rfl (.inl (Nat.le_refl _)) ?_
     refine OT.U hT 2 rfl (.nil (.seq (.seq (.block (.seq (.region (.U hT 3 rfl (.nil (.seq (.cond_false rfl (.seq (.region (.U hT 2 rfl (.U hT 1 rfl (.load rfl rfl (Ld.one hT rfl hz rfl) rfl ?_)))))))))))))))
     refine OT.U hT 3 rfl (.split 44 rfl (fun Kl=> ?_) (fun Kl=> ?_))
     .
      have Kl:z.cg≠0:=by simpa using Kl
      refine OT.U hT 1 rfl (.load rfl rfl (Ld.one hT rfl hz rfl) rfl ?_)
      refine OT.U hT 4 rfl (.nil (.seq (.cond rfl (fun pZ=> ?_) (fun pZ=> ?_))))
      .
       have pZ:z.cg≠t:=by simpa using pZ
       refine TT.seq (.region (.U hT 1 rfl (.nil (.seq (.ret (.of (rs:=[.tmp 8]) [_] (H1::r) rfl (.tmp rfl .nil) sl ?_))))))
       try dsimp only[one]
       exact⟨H1,g,9,rfl,rfl,tJ,.inr (.inl ⟨hok,Nf.2 ⟨z,rfl,Kl,pZ⟩,rfl,rfl⟩)⟩
      .
       have pZ:z.cg=t:=by simpa using pZ
       have hnb:¬kQ g.2 t k:=fun h=>by obtain⟨c,hc,_,h2⟩:=Nf.1 h;injection hc with hc;subst hc;exact h2 pZ
       refine TT.seq (.region (.U hT 1 rfl (.load rfl rfl (Ld.one hT rfl hz rfl) rfl ?_)))
       refine OT.U hT 2 rfl (.split 54 rfl (fun lY=> ?_) (fun lY=> ?_))
       .
        have lY:v.kind≠0:=by simpa using lY
        have hk:ez g.2 k v:=hkp.2 (.inl lY)
        refine OT.U hT 6 rfl (.nil (.seq (.cond_true rfl (.seq (.region (.U hT 2 rfl (.store hT rfl rfl rfl rfl pl rfl (Nat.le_of_ble_eq_true rfl) rfl (.inl (Nat.le_refl _)) rfl ?_)))))))
        refine OT.nil (.seq (.seq (.region (.U hT 1 rfl (.load rfl rfl (Ld.af (cs:=aj ⟨k,z.val,z.cg,z.new⟩) hT rfl hz rfl) rfl ?_)))))
        refine OT.U hT 1 rfl (.load rfl rfl (Ld.af hT rfl hz rfl) rfl ?_)
        refine OT.call Tryz.call55 rfl rfl rfl rfl (jO (x:=⟨k,z.val,z.cg,z.new⟩)) ?_
        rintro EL xV ⟨rfl,rfl⟩
        refine OT.call Tryz.call54 rfl rfl rfl rfl (aA.pull pl (pX hP hQ tJ (x:=⟨k,z.val,t,v⟩) (by have h:=pT (t:=t) (k:=k) hgd Jn;rw[BS]at h;exact h))) ?_
        rintro CO xW ⟨H2,g2,e2,rfl,rfl,Er,hp⟩
        rw[show(⟨k,z.val,t,v⟩:Cell)=(xu g.2 t k v)from BS.symm]at hp
        have hq:=mg (mh hgd hok) hp
        refine OT.U hT 1 rfl (.nil (.seq (.ret (.of (rs:=[.tmp 8]) [_] (H2::r) rfl (.tmp rfl .nil) sl ?_))))
        try dsimp only[one]
        refine⟨H2,g2,e2,rfl,rfl,Er,?_⟩
        rcases hq with⟨rfl,h⟩|⟨rfl,rfl,_,h⟩
        . exact .inr (.inr (.inl ⟨hok,hnb,rfl,by rw[if_pos hk];exact h⟩))
        . exact .inr (.inr (.inr ⟨hok,hnb,rfl,rfl,h,hk⟩))
       .
        have lY:v.kind=0:=by simpa using lY
        refine OT.U hT 2 rfl (.load rfl rfl (Ld.one hT rfl hz rfl) rfl ?_)
        refine OT.U hT 3 rfl (.nil (.seq (.cond rfl (fun qY=> ?_) (fun qY=> ?_))))
        .
         have hk:ez g.2 k v:=hkp.2 (.inr (by simpa using qY))
         refine TT.seq (.region (.U hT 2 rfl (.store hT rfl rfl rfl rfl pl rfl (Nat.le_of_ble_eq_true rfl) rfl (.inl (Nat.le_refl _)) rfl ?_)))
         refine OT.nil (.seq (.seq (.region (.U hT 1 rfl (.load rfl rfl (Ld.af (cs:=aj ⟨k,z.val,z.cg,z.new⟩) hT rfl hz rfl) rfl ?_)))))
         refine OT.U hT 1 rfl (.load rfl rfl (Ld.af hT rfl hz rfl) rfl ?_)
         refine OT.call Tryz.call55 rfl rfl rfl rfl (jO (x:=⟨k,z.val,z.cg,z.new⟩)) ?_
         rintro EL xV ⟨rfl,rfl⟩
         refine OT.call Tryz.call54 rfl rfl rfl rfl (aA.pull pl (pX hP hQ tJ (x:=⟨k,z.val,t,v⟩) (by have h:=pT (t:=t) (k:=k) hgd Jn;rw[BS]at h;exact h))) ?_
         rintro CO xW ⟨H2,g2,e2,rfl,rfl,Er,hp⟩
         rw[show(⟨k,z.val,t,v⟩:Cell)=(xu g.2 t k v)from BS.symm]at hp
         have hq:=mg (mh hgd hok) hp
         refine OT.U hT 1 rfl (.nil (.seq (.ret (.of (rs:=[.tmp 8]) [_] (H2::r) rfl (.tmp rfl .nil) sl ?_))))
         try dsimp only[one]
         refine⟨H2,g2,e2,rfl,rfl,Er,?_⟩
         rcases hq with⟨rfl,h⟩|⟨rfl,rfl,_,h⟩
         . exact .inr (.inr (.inl ⟨hok,hnb,rfl,by rw[if_pos hk];exact h⟩))
         . exact .inr (.inr (.inr ⟨hok,hnb,rfl,rfl,h,hk⟩))
        .
         have hnk:¬ez g.2 k v:=fun h=>(hkp.1 h).elim (fun h=>h lY) (fun h=>h (by simpa using qY))
         refine TT.seq (.region (.U hT 2 rfl (.nil (.seq (.cond_true rfl (.region (.U hT 2 rfl (.call Tryz.call56 rfl rfl rfl rfl (aA.pull pl (Fw hP hQ tJ (k:=k))) ?_))))))))
         rintro SI Pv ⟨H3,g3,rfl,rfl,Rf,En,_⟩
         refine OT.U hT 4 rfl (.nil (.blk (.seq (.seq (.region (.U hT 2 rfl (.nil (.seq (.ret (.of (rs:=[.tmp 8]) [_] (H3::r) rfl (.tmp rfl .nil) sl ?_))))))))))
         try dsimp only[one]
         exact⟨H3,g3,0,rfl,rfl,Rf,.inr (.inr (.inl ⟨hok,hnb,rfl,by rw[if_neg hnk];exact En⟩))⟩
     .
      have Kl:z.cg=0:=by simpa using Kl
      have hnb:¬kQ g.2 t k:=fun h=>by obtain⟨c,hc,h1,_⟩:=Nf.1 h;injection hc with hc;subst hc;exact h1 Kl
      refine OT.U hT 6 rfl (.nil (.seq (.cond_false rfl (.seq (.region (.U hT 1 rfl (.load rfl rfl (Ld.one hT rfl hz rfl) rfl ?_)))))))
      refine OT.U hT 2 rfl (.split 54 rfl (fun lY=> ?_) (fun lY=> ?_))
      .
       have lY:v.kind≠0:=by simpa using lY
       have hk:ez g.2 k v:=hkp.2 (.inl lY)
       refine OT.U hT 6 rfl (.nil (.seq (.cond_true rfl (.seq (.region (.U hT 2 rfl (.store hT rfl rfl rfl rfl pl rfl (Nat.le_of_ble_eq_true rfl) rfl (.inl (Nat.le_refl _)) rfl ?_)))))))
       refine OT.nil (.seq (.seq (.region (.U hT 1 rfl (.load rfl rfl (Ld.af (cs:=aj ⟨k,z.val,z.cg,z.new⟩) hT rfl hz rfl) rfl ?_)))))
       refine OT.U hT 1 rfl (.load rfl rfl (Ld.af hT rfl hz rfl) rfl ?_)
       refine OT.call Tryz.call55 rfl rfl rfl rfl (jO (x:=⟨k,z.val,z.cg,z.new⟩)) ?_
       rintro EL xV ⟨rfl,rfl⟩
       refine OT.call Tryz.call54 rfl rfl rfl rfl (aA.pull pl (pX hP hQ tJ (x:=⟨k,z.val,t,v⟩) (by have h:=pT (t:=t) (k:=k) hgd Jn;rw[BS]at h;exact h))) ?_
       rintro CO xW ⟨H2,g2,e2,rfl,rfl,Er,hp⟩
       rw[show(⟨k,z.val,t,v⟩:Cell)=(xu g.2 t k v)from BS.symm]at hp
       have hq:=mg (mh hgd hok) hp
       refine OT.U hT 1 rfl (.nil (.seq (.ret (.of (rs:=[.tmp 8]) [_] (H2::r) rfl (.tmp rfl .nil) sl ?_))))
       try dsimp only[one]
       refine⟨H2,g2,e2,rfl,rfl,Er,?_⟩
       rcases hq with⟨rfl,h⟩|⟨rfl,rfl,_,h⟩
       . exact .inr (.inr (.inl ⟨hok,hnb,rfl,by rw[if_pos hk];exact h⟩))
       . exact .inr (.inr (.inr ⟨hok,hnb,rfl,rfl,h,hk⟩))
      .
       have lY:v.kind=0:=by simpa using lY
       refine OT.U hT 2 rfl (.load rfl rfl (Ld.one hT rfl hz rfl) rfl ?_)
       refine OT.U hT 3 rfl (.nil (.seq (.cond rfl (fun qY=> ?_) (fun qY=> ?_))))
       .
        have hk:ez g.2 k v:=hkp.2 (.inr (by simpa using qY))
        refine TT.seq (.region (.U hT 2 rfl (.store hT rfl rfl rfl rfl pl rfl (Nat.le_of_ble_eq_true rfl) rfl (.inl (Nat.le_refl _)) rfl ?_)))
        refine OT.nil (.seq (.seq (.region (.U hT 1 rfl (.load rfl rfl (Ld.af (cs:=aj ⟨k,z.val,z.cg,z.new⟩) hT rfl hz rfl) rfl ?_)))))
        refine OT.U hT 1 rfl (.load rfl rfl (Ld.af hT rfl hz rfl) rfl ?_)
        refine OT.call Tryz.call55 rfl rfl rfl rfl (jO (x:=⟨k,z.val,z.cg,z.new⟩)) ?_
        rintro EL xV ⟨rfl,rfl⟩
        refine OT.call Tryz.call54 rfl rfl rfl rfl (aA.pull pl (pX hP hQ tJ (x:=⟨k,z.val,t,v⟩) (by have h:=pT (t:=t) (k:=k) hgd Jn;rw[BS]at h;exact h))) ?_
        rintro CO xW ⟨H2,g2,e2,rfl,rfl,Er,hp⟩
        rw[show(⟨k,z.val,t,v⟩:Cell)=(xu g.2 t k v)from BS.symm]at hp
        have hq:=mg (mh hgd hok) hp
        refine OT.U hT 1 rfl (.nil (.seq (.ret (.of (rs:=[.tmp 8]) [_] (H2::r) rfl (.tmp rfl .nil) sl ?_))))
        try dsimp only[one]
        refine⟨H2,g2,e2,rfl,rfl,Er,?_⟩
        rcases hq with⟨rfl,h⟩|⟨rfl,rfl,_,h⟩
        . exact .inr (.inr (.inl ⟨hok,hnb,rfl,by rw[if_pos hk];exact h⟩))
        . exact .inr (.inr (.inr ⟨hok,hnb,rfl,rfl,h,hk⟩))
       .
        have hnk:¬ez g.2 k v:=fun h=>(hkp.1 h).elim (fun h=>h lY) (fun h=>h (by simpa using qY))
        refine TT.seq (.region (.U hT 2 rfl (.nil (.seq (.cond_true rfl (.region (.U hT 2 rfl (.call Tryz.call56 rfl rfl rfl rfl (aA.pull pl (Fw hP hQ tJ (k:=k))) ?_))))))))
        rintro SI Pv ⟨H3,g3,rfl,rfl,Rf,En,_⟩
        refine OT.U hT 4 rfl (.nil (.blk (.seq (.seq (.region (.U hT 2 rfl (.nil (.seq (.ret (.of (rs:=[.tmp 8]) [_] (H3::r) rfl (.tmp rfl .nil) sl ?_))))))))))
        try dsimp only[one]
        exact⟨H3,g3,0,rfl,rfl,Rf,.inr (.inr (.inl ⟨hok,hnb,rfl,by rw[if_neg hnk];exact En⟩))⟩
end Go.Proofs.YtihpkgmfkbkffaaGreat.Sx
end
section
namespace Go.Proofs.YtihpkgmfkbkffaaGreat.Sx
open Go Go.Sx Go.Pl
variable[au]
set_option maxHeartbeats 2000000 in
set_option maxRecDepth 100000 in
theorem qm{ti:Nat}{ui:Value}{I:Chunk->Prop}{E:Int->Chunk->Prop}{pg:Pg}{H:Chunk}{r:List Chunk}(hP:ni Tryz.prog 5 (.iface ti ui) I E pg)(hI:I H){bs:List UInt8}{nx:Int}{xs:List az}(h0:pg 0=(0,bs))(hl:bs.length<=1073741824)(hd:di bs=((nx,xs),0))(hx:xs.length<=1073741824){nm:ByteArray}:aA Tryz.prog 42 [.iface ti ui,.string nm] (H::r) (fun v' hs'=>(∃H' e,hs'=H'::r/\v'= .tuple ⟨[.pointer none,.int .i64 e]⟩/\((I H'/\findAt (named nm) 0 xs<0/\e=6)\/(I H'/\∃(i:Nat) (s:az),findAt (named nm) 0 xs=(i:Nat)/\xs[i]? =some s/\s.inv=true/\e=12)\/(e≠0/\∃e0,E e0 H')))\/∃H' bv i s,hs'=[(bv,blk (.iface ti ui::aq s) 134 (0,0))]::H'::r/\v'= .tuple ⟨[.pointer (some ⟨bv,0,none⟩),.int .i64 0]⟩/\I H'/\findAt (named nm) 0 xs=(i:Nat)/\xs[i]? =some s/\s.inv=false/\(aq s).length=35):=by
 refine aA.enter 48 Tryz.func42 rfl Tryz.ntmps42 rfl ?_
 refine TT.seq (.region (.U hT 2 rfl (.nil (.seq (.seq (.seq (.region (.U hT 2 rfl (.nil (.seq (.cond_false rfl (.skip (.seq (.seq (.region (.U hT 1 rfl (.kS hP rfl rfl rfl rfl pl hI (by omega) (by omega) (fun xm Xc Xd Xe Pw Px Py=> ?_))))))))))))))))))
 rcases Py with⟨rfl,hx1,fX⟩|⟨he,_,hq⟩
 .
  rw[h0]at hx1
  obtain rfl:bs=Pw:=congrArg Prod.snd hx1
  refine OT.U hT 5 rfl (.nil (.seq (.seq (.seq (.region (.U hT 2 rfl (.nil (.seq (.cond_false rfl (.skip (.seq (.seq (.region (.U hT 1 rfl (.call Tryz.call72 rfl rfl rfl rfl (A3 (Row.mono (Px.row (hs:=r)) fun b o hb=>Has.kf sl hb) hl) ?_)))))))))))))))
  rintro CM uu ⟨w,HS,rfl,rfl,GL⟩
  rw[hd]at GL⊢
  dsimp only at GL⊢
  obtain⟨aw,cw,Es⟩:=(GL.row (hs:=[])).len
  subst Es
  refine OT.U hT 3 rfl (.alloc Tryz.zeroValue94 rfl rfl (fun fH=> ?_))
  refine OT.ag hT rfl rfl rfl rfl pl rfl rfl rfl (.inl (Nat.le_refl _)) ?_
  refine OT.U hT 1 rfl (.nil (.seq (.seq (.seq (.region (.U hT 2 rfl (.nil (.seq (.cond_false rfl (.skip (.seq (.seq (.region (.load rfl rfl (Ld.af hT rfl hz rfl) rfl ?_))))))))))))))
  refine OT.U hT 1 rfl (.call Tryz.call45 rfl rfl rfl rfl (lH (nm:=nm) (Row.mono (GL.row (hs:=r)) fun b o hb=>Has.kf sl hb) hx) ?_)
  rintro vw uo ⟨rfl,rfl⟩
  refine OT.U hT 1 rfl (.nil (.seq (.seq (.block (.seq (.region (.U hT 3 rfl (.nil (.seq (.cond rfl (fun fE=> ?_) (fun fE=> ?_)))))))))))
  .
   have fE:=of_decide_eq_true fE
   refine TT.seq (.region (.U hT 2 rfl (.nil (.seq (.ret (.of (rs:=[.tmp 4,.tmp 5]) [_,_] (xm::r) rfl (.tmp rfl (.tmp rfl .nil)) sl ?_))))))
   try dsimp only[one]
   exact .inl ⟨xm,_,rfl,rfl,.inl ⟨fX,fE,rfl⟩⟩
  .
   have fE:=of_decide_eq_false fE
   obtain⟨i,hi⟩:∃i:Nat,findAt (named nm) 0 xs=(i:Nat):=⟨(findAt (named nm) 0 xs).toNat,by omega⟩
   have hlt:=(qi (named nm) xs 0).1
   rw[hi]
   obtain⟨s,hs⟩:=nth (l:=xs) (i:=i) (by omega)
   have fG:=GL.j7 s (List.mem_of_getElem? hs)
   refine TT.seq (.region (.U hT 1 rfl (.load rfl rfl (Ld.slc hT rfl hz rfl) rfl ?_)))
   refine OT.U hT 1 rfl (.index hT rfl rfl rfl rfl (Row.mono (GL.row (hs:=r)) fun b o hb=>Has.kf sl hb) (by omega) (by rw[Int.toNat_natCast];exact hs) rfl (fun OM Ah=> ?_))
   obtain⟨UH,UI,rfl,I6⟩:=Ah.at (P:=Tryz.prog)
   refine OT.U hT 1 rfl (.load rfl rfl (I6 hT rfl rfl) rfl (.U hT 1 rfl (.nil (.seq (.cond rfl (fun nq=> ?_) (fun nq=> ?_))))))
   .
    refine TT.seq (.region (.U hT 2 rfl (.nil (.seq (.ret (.of (rs:=[.tmp 4,.tmp 5]) [_,_] (xm::r) rfl (.tmp rfl (.tmp rfl .nil)) sl ?_))))))
    try dsimp only[one]
    exact .inl ⟨xm,_,rfl,rfl,.inr (.inl ⟨fX,i,s,rfl,hs,nq,rfl⟩)⟩
   .
    refine TT.skip (.blk (.seq (.seq (.region (.U hT 2 rfl (.load rfl rfl (Ld.slc hT rfl hz rfl) rfl ?_))))))
    refine OT.U hT 1 rfl (.index hT rfl rfl rfl rfl (Row.mono (GL.row (hs:=r)) fun b o hb=>Has.kf sl hb) (by omega) (by rw[Int.toNat_natCast];exact hs) rfl (fun JG pV=> ?_))
    obtain⟨UJ,UK,rfl,PX⟩:=pV.at (P:=Tryz.prog)
    refine OT.load rfl rfl (pV.cO hT rfl) rfl (.call Tryz.call40 rfl rfl rfl rfl (oU rfl fG) ?_)
    rintro Hx BI ⟨bv,rfl,rfl⟩
    refine OT.U hT 2 rfl (.nil (.seq (.ret (.of (rs:=[.tmp 4,.tmp 5]) [_,_] ([(bv,blk (.iface ti ui::aq s) 134 (0,0))]::xm::r) rfl (.tmp rfl (.tmp rfl .nil)) sl ?_))))
    try dsimp only[one]
    exact .inr ⟨xm,bv,i,s,rfl,rfl,fX,rfl,hs,nq,fG⟩
 .
  refine OT.U hT 5 rfl (.nil (.seq (.seq (.seq (.region (.U hT 2 rfl (.nil (.seq (.cond rfl (fun eK=> ?_) (fun eK=> ?_))))))))))
  .
   refine TT.seq (.region (.U hT 3 rfl (.nil (.seq (.ret (.of (rs:=[.tmp 4,.tmp 5]) [_,_] (xm::r) rfl (.tmp rfl (.tmp rfl .nil)) sl ?_))))))
   try dsimp only[one]
   rcases hq with⟨h1,_⟩|h1
   . rw[h0]at h1;exact absurd h1.symm he
   . exact .inl ⟨xm,_,rfl,rfl,.inr (.inr ⟨he,_,h1⟩)⟩
  .
   exact absurd eK (by simpa using he)
end Go.Proofs.YtihpkgmfkbkffaaGreat.Sx
end
section
namespace Go.Proofs.YtihpkgmfkbkffaaGreat.Sx
open Go Go.Sx Go.Pl
variable[au]
set_option maxHeartbeats 8000000 in
set_option maxRecDepth 100000 in
theorem Md{P:Value}{I:Chunk->Prop}{Qb:ah}(hP:cW Tryz.prog 5 P I (fun _ _=>False) (aK Qb))(hQ:cQ Qb){b:Nat}{g:aG}{H:Chunk}{r:List Chunk}(hH:gi 110 b P I Qb g H){Z:Chunk}{fw fh:Nat}{BK:List Value}{p:Int->Bool}{how:Cell->Cell×Bool}(hok:Bq how)(hkk:iO g.2 (kW p how))(V_:∀args w,(callFunc fw args).run Tryz.prog w= .ok (.enter fw args) w)(tr:∀args w,(callFunc fh args).run Tryz.prog w= .ok (.enter fh args) w)(hw:∀(x:Int) (r':List Chunk),aA Tryz.prog fw (.int .i64 x::BK) (Z::r') fun v' hs'=>v'= .bool (p x)/\hs'=Z::r')(hh:∀(x:Cell) (hs:List Chunk),aA Tryz.prog fh [.agg ⟨aj x⟩] hs fun v' hs'=>v'= .tuple ⟨[.agg ⟨aj (how x).1⟩,.bool (how x).2]⟩/\hs=hs'):aA Tryz.prog 57 [.pointer (some ⟨b,0,none⟩),.func (.func fw) ⟨[]⟩ ⟨BK⟩,.func (.func fh) #[] #[]] (H::Z::r) (fun v' hs'=>∃H' g',hs'=H'::Z::r/\v'= .tuple ⟨[.int .i64 (wZ g.2 p:Nat),.int .i64 0]⟩/\gi 110 b P I Qb g' H'/\g'.2=Ez g.2 p how):=by
 refine aA.enter 88 Tryz.func57 rfl Tryz.ntmps57 rfl ?_
 obtain⟨_,Qd,TQ,_,_⟩:=hH.small
 have hgd:=hH.good
 refine TT.seq (.region (.U hT 2 rfl (.nil (.seq (.seq (.region (.U hT 1 rfl (.bO Tryz.underlying24 rfl rfl rfl rfl (.call Tryz.call60 rfl rfl rfl rfl (I3 hP hQ hH) ?_)))))))))
 rintro CM uu ⟨H1,K1,v1,rfl,rfl,eJ,tJ⟩
 rw[Fh]at eJ
 obtain⟨a1,c1,BT⟩:=(eJ.row (hs:=[])).len
 subst BT
 obtain⟨Qs,MC,TR⟩:=tJ
 have Hg:=MC.pL hQ
 refine OT.U hT 5 rfl (.nil (.seq (.seq (.seq (.region (.U hT 2 rfl (.nil (.seq (.cond_false rfl (.skip (.seq (.seq (.region (.U hT 1 rfl (.bO Tryz.underlying24 rfl rfl rfl rfl (.call Tryz.call15 rfl rfl rfl rfl (aA.pull pl (I4 hP hQ MC TR.right)) ?_))))))))))))))))
 rintro vw uo ⟨t,Wa,rfl,rfl,MQ⟩
 refine OT.U hT 2 rfl (.nil (.seq (.seq (.seq (.region (.U hT 3 rfl (.nil (.seq (.block (.loop (ι:=Nat×Chunk×aG) (fun j=>(j.1)<=g.2.length/\MB b t P I Qb Qs (j.2.2) (j.2.1)/\(j.2.2).2=mY g.2 (kW p how) (j.1)) (fun j=>g.2.length-(j.1)) (fun j=>[(0,.pointer (some ⟨b,0,none⟩)),(1,.func (.func fw) ⟨[]⟩ ⟨BK⟩),(2,.func (.func fh) #[] #[]),(10,.pointer (some ⟨t,0,none⟩)),(9,.int .i64 0),(11,.int .i64 (((g.2.take (j.1)).filter (fun c=>decide (c.cg≠0/\p c.cg=true))).length:Nat)),(31,.slice a1 g.2.length c1),(32,.int .i64 (g.2.length:Nat)),(33,.int .i64 ((j.1):Nat))]) (fun j=>(j.2.1)::K1::Z::r) (0,Wa,g) ?_ (aa.cons rfl (aa.cons rfl (aa.cons rfl (aa.cons rfl (aa.cons rfl (aa.cons rfl (aa.cons rfl (aa.cons rfl (aa.cons rfl (aa.nil _)))))))))) sl ?_))))))))))
 . dsimp only
   exact⟨Nat.zero_le _,MQ,rfl⟩
 rintro⟨i,HT,g2⟩ hI
 dsimp only at hI
 obtain⟨hi,Ng,nr⟩:=hI
 show TT _ _ _ [(0,.pointer (some ⟨b,0,none⟩)),(1,.func (.func fw) ⟨[]⟩ ⟨BK⟩),(2,.func (.func fh) #[] #[]),(10,.pointer (some ⟨t,0,none⟩)),(9,.int .i64 0),(11,.int .i64 (((g.2.take i).filter (fun c=>decide (c.cg≠0/\p c.cg=true))).length:Nat)),(31,.slice a1 g.2.length c1),(32,.int .i64 (g.2.length:Nat)),(33,.int .i64 (i:Nat))] (HT::K1::Z::r)
 refine TT.seq (.region (.U hT 1 rfl (.nil (.seq (.seq (.cond rfl (fun nq=> ?_) (fun nq=> ?_)))))))
 .
  have nq:=of_decide_eq_true nq
  obtain⟨x,hx⟩:=nth (l:=g.2) (i:=i) (by omega)
  obtain⟨Na,gA⟩:=hgd x (List.mem_of_getElem? hx)
  have gW:=AV g.2 (fun c=>decide (c.cg≠0/\p c.cg=true)) i
  refine TT.skip (.seq (.seq (.block (.seq (.region (.index hT rfl rfl rfl rfl (eJ.row.there) (by omega) (by rw[Int.toNat_natCast];exact hx) rfl (fun xS iL=> ?_)))))))
  refine OT.load rfl rfl (iL.cO hT rfl) rfl (.alloc Tryz.zeroValue113 rfl rfl (fun HF=> ?_))
  refine OT.ag hT rfl rfl rfl rfl pl rfl rfl rfl (.inl (Nat.le_refl _)) ?_
  refine OT.nil (.seq (.seq (.seq (.region (.U hT 1 rfl (.load rfl rfl (Ld.one hT rfl hz rfl) rfl ?_))))))
  refine OT.U hT 2 rfl (.split 40 rfl (fun CY=> ?_) (fun CY=> ?_))
  .
   have CY:x.cg=0:=eq_of_beq CY
   have hF:kW p how x=some x:=by unfold kW;rw[if_neg (fun h=>h.1 CY)]
   have BO:=uY (p:=(fun c=>decide (c.cg≠0/\p c.cg=true))) hx (decide_eq_false (fun h=>h.1 CY))
   refine OT.U hT 6 rfl (.nil (.seq (.cond_true rfl (.exit (.seq (.here (.seq (.region (.U hT 2 rfl (.nil (.loop (i+1,HT,g2) ?_ ?_ (aa.cons rfl (aa.cons rfl (aa.cons rfl (aa.cons rfl (aa.cons rfl (aa.aM rfl (by(try dsimp only);exact(int_eq (by rw[BO]))) (aa.cons rfl (aa.cons rfl (aa.aM rfl (by(try dsimp only);exact(int_eq (by rw[wrap_i64 (by omega) (by omega)];omega))) (aa.nil _)))))))))) sl)))))))))))
   . dsimp only
     exact⟨by omega,Ng,by rw[yy hx hF];exact nr⟩
   . dsimp only
     omega
  .
   have CY:x.cg≠0:=fun h=>by rw[h]at CY;simp at CY
   refine OT.U hT 2 rfl (.load rfl rfl (Ld.one hT rfl hz rfl) rfl ?_)
   refine OT.xA V_ rfl rfl rfl rfl (aA.weaken sl (hw _ _)) ?_
   rintro CN uv ⟨rfl,rfl⟩
   refine OT.U hT 2 rfl (.nil (.seq (.cond rfl (fun pJ=> ?_) (fun pJ=> ?_))))
   .
    have pJ:¬p x.cg=true:=by simpa using pJ
    have hF:kW p how x=some x:=by unfold kW;rw[if_neg (fun h=>pJ h.2)]
    have BO:=uY (p:=(fun c=>decide (c.cg≠0/\p c.cg=true))) hx (decide_eq_false (fun h=>pJ h.2))
    refine TT.exit (.seq (.here (.seq (.region (.U hT 2 rfl (.nil (.loop (i+1,HT,g2) ?_ ?_ (aa.cons rfl (aa.cons rfl (aa.cons rfl (aa.cons rfl (aa.cons rfl (aa.aM rfl (by(try dsimp only);exact(int_eq (by rw[BO]))) (aa.cons rfl (aa.cons rfl (aa.aM rfl (by(try dsimp only);exact(int_eq (by rw[wrap_i64 (by omega) (by omega)];omega))) (aa.nil _)))))))))) sl)))))))
    . dsimp only
      exact⟨by omega,Ng,by rw[yy hx hF];exact nr⟩
    . dsimp only
      omega
   .
    have pJ:p x.cg=true:=by simpa using pJ
    have BO:=(DF (p:=(fun c=>decide (c.cg≠0/\p c.cg=true))) hx (decide_eq_true ⟨CY,pJ⟩)).2
    refine TT.skip (.seq (.seq (.seq (.region (.U hT 1 rfl (.load rfl rfl (Ld.af hT rfl hz rfl) rfl ?_))))))
    refine OT.xA tr rfl rfl rfl rfl (aA.weaken sl (hh _ _)) ?_
    rintro zJ xT ⟨rfl,rfl⟩
    refine OT.U hT 3 rfl (.alloc Tryz.zeroValue113 rfl rfl (fun gD=> ?_))
    refine OT.ag hT rfl rfl rfl rfl pl rfl rfl rfl (.inl (Nat.le_refl _)) ?_
    refine OT.U hT 1 rfl (.nil (.seq (.seq (.region (.U hT 1 rfl (.nil (.seq (.cond rfl (fun tG=> ?_) (fun tG=> ?_)))))))))
    .
     have tG:(how x).2=true:=tG
     obtain⟨qW,hk2,D8,CS⟩:=hok x Na CY gA tG
     have hF:kW p how x=some (how x).1:=by unfold kW;rw[if_pos ⟨CY,pJ⟩,if_pos tG]
     refine TT.region (.U hT 1 rfl (.load rfl rfl (Ld.af hT rfl hz rfl) rfl ?_))
     refine OT.call Tryz.call54 rfl rfl rfl rfl (aA.pull pl (Gy hP hQ Hg Ng hk2 D8 (c:=x) (by rw[nr];exact List.mem_of_getElem? (Cl hx)) qW.symm CS)) ?_
     rintro Sw Ph ⟨Rg,g3,rfl,rfl,La,En⟩
     rw[nr,Ir TQ hkk hx hF]at En
     refine OT.U hT 1 rfl (.nil (.seq (.seq (.seq (.region (.U hT 2 rfl (.nil (.seq (.cond_false rfl (.skip (.seq (.region (.U hT 3 rfl (.nil (.blk (.seq (.region (.U hT 2 rfl (.nil (.loop (i+1,Rg,g3) ?_ ?_ (aa.cons rfl (aa.cons rfl (aa.cons rfl (aa.cons rfl (aa.cons rfl (aa.aM rfl (by(try dsimp only);exact(int_eq (by rw[BO,wrap_i64 (by omega) (by omega)];omega))) (aa.cons rfl (aa.cons rfl (aa.aM rfl (by(try dsimp only);exact(int_eq (by rw[wrap_i64 (by omega) (by omega)];omega))) (aa.nil _)))))))))) sl))))))))))))))))))))
     . dsimp only
       exact⟨by omega,La,En⟩
     . dsimp only
       omega
    .
     have tG:(how x).2=false:=tG
     have hF:kW p how x=none:=by unfold kW;rw[if_pos ⟨CY,pJ⟩,if_neg (by rw[tG];simp)]
     refine TT.region (.U hT 2 rfl (.load rfl rfl (Ld.one hT rfl hz rfl) rfl ?_))
     refine OT.call Tryz.call56 rfl rfl rfl rfl (aA.pull pl (Ma hP hQ Hg Ng (k:=x.key))) ?_
     rintro SA Po ⟨Rg,g3,bb,rfl,rfl,La,En⟩
     rw[nr,Is TQ hkk hx hF]at En
     refine OT.U hT 4 rfl (.nil (.seq (.seq (.seq (.region (.U hT 2 rfl (.nil (.seq (.cond_false rfl (.skip (.seq (.region (.U hT 3 rfl (.nil (.blk (.seq (.region (.U hT 2 rfl (.nil (.loop (i+1,Rg,g3) ?_ ?_ (aa.cons rfl (aa.cons rfl (aa.cons rfl (aa.cons rfl (aa.cons rfl (aa.aM rfl (by(try dsimp only);exact(int_eq (by rw[BO,wrap_i64 (by omega) (by omega)];omega))) (aa.cons rfl (aa.cons rfl (aa.aM rfl (by(try dsimp only);exact(int_eq (by rw[wrap_i64 (by omega) (by omega)];omega))) (aa.nil _)))))))))) sl))))))))))))))))))))
     . dsimp only
       exact⟨by omega,La,En⟩
     . dsimp only
       omega
 .
  have nq:=of_decide_eq_false nq
  obtain rfl:i=g.2.length:=by omega
  rw[Iu]at nr
  rw[List.take_of_length_le (Nat.le_refl _)]
  refine TT.exit (.seq (.loop (.here (.seq (.seq (.seq (.region (.U hT 1 rfl ?_))))))))
  obtain⟨Qt,Wb,TS⟩:=Ng
  refine OT.call Tryz.call47 rfl rfl rfl rfl (aA.pull pl (zh hP hQ Hg Wb)) ?_
  rintro EK BJ ⟨ts,HI,X6,rfl,Q7,TU,My,zx,BN⟩
  have SJ:=TU.oM
  have Hf:∀hs,mS (HI::hs) EK ts:=fun hs=>Q7.at (by omega) (fun t ht=>by have:=(zx t.GR (List.mem_map.2 ⟨t,ht,rfl⟩)).2;show t.b.length<=_;have e:t.GR.2=t.b:=rfl;rw[e]at this;omega)
  obtain⟨TV,TW,SK⟩:=(Hf []).row.len
  subst SK
  obtain⟨m3,⟨X7,M3,G3,rfl,_,_,Wc⟩,_⟩:=TU
  refine OT.perm yl (.U hT 2 rfl (.nil (.seq (.block (.loop (ι:=Nat×Chunk) (fun j=>(j.1)<=ts.length/\aV 110 b P I Qb (lay Qs ((jv ts).take (j.1))) (j.2)) (fun j=>ts.length-(j.1)) (fun j=>[(0,.pointer (some ⟨b,0,none⟩)),(11,.int .i64 (wZ g.2 p:Nat)),(71,.slice TV ts.length TW),(72,.int .i64 (ts.length:Nat)),(73,.int .i64 ((j.1):Nat))]) (fun j=>HI::(j.2)::Z::r) (0,G3) ?_ (aa.cons rfl (aa.cons rfl (aa.cons rfl (aa.cons rfl (aa.cons rfl (aa.nil _)))))) sl ?_)))))
  . dsimp only
    exact⟨Nat.zero_le _,Wc⟩
  rintro⟨k,G⟩ hI
  dsimp only at hI
  obtain⟨hk,hG⟩:=hI
  show TT _ _ _ [(0,.pointer (some ⟨b,0,none⟩)),(11,.int .i64 (wZ g.2 p:Nat)),(71,.slice TV ts.length TW),(72,.int .i64 (ts.length:Nat)),(73,.int .i64 (k:Nat))] (HI::G::Z::r)
  refine TT.seq (.region (.U hT 1 rfl (.nil (.seq (.seq (.cond rfl (fun Nh=> ?_) (fun Nh=> ?_)))))))
  .
   have Nh:=of_decide_eq_true Nh
   obtain⟨y,hy⟩:=nth (l:=ts) (i:=k) (by omega)
   have Rh:=List.mem_of_getElem? hy
   have MA:=zx y.GR (List.mem_map.2 ⟨y,Rh,rfl⟩)
   refine TT.skip (.seq (.seq (.block (.seq (.region (.index hT rfl rfl rfl rfl (Hf _).row (by omega) (by rw[Int.toNat_natCast];exact hy) rfl (fun UL Me=> ?_)))))))
   refine OT.load rfl rfl (Me.cO hT rfl) rfl (.alloc Tryz.zeroValue143 rfl rfl (fun gX=> ?_))
   refine OT.ag hT rfl rfl rfl rfl pl rfl rfl (Cd (Hf []) Rh) (.inl (Nat.le_refl _)) ?_
   refine OT.nil (.seq (.seq (.region (.U hT 2 rfl (.load rfl rfl (Ld.one hT rfl hz rfl) rfl ?_)))))
   refine OT.U hT 1 rfl (.load rfl rfl (Ld.slc hT rfl hz rfl) rfl ?_)
   refine OT.call Tryz.call109 rfl rfl rfl rfl (aA.pull pl (nB hP hQ hG (no:=y.no) (bs:=y.b) (((Hf _).each y Rh).there) MA.1 MA.2)) ?_
   rintro N5 JT ⟨G4,rfl,rfl,Wd⟩
   refine OT.U hT 1 rfl (.nil (.seq (.seq (.region (.U hT 2 rfl (.nil (.seq (.cond_false rfl (.skip (.blk (.seq (.region (.U hT 2 rfl (.nil (.loop (k+1,G4) ?_ ?_ (aa.cons rfl (aa.cons rfl (aa.cons rfl (aa.cons rfl (aa.aM rfl (by(try dsimp only);exact(int_eq (by rw[wrap_i64 (by omega) (by omega)];omega))) (aa.nil _)))))) sl)))))))))))))))
   . dsimp only
     exact⟨by omega,by rw[yj (B8 hy)];exact Wd⟩
   . dsimp only
     omega
  .
   have Nh:=of_decide_eq_false Nh
   obtain rfl:k=ts.length:=by omega
   rw[List.take_of_length_le (by rw[qN];exact Nat.le_refl _),My,SJ]at hG
   refine TT.exit (.seq (.loop (.here (.seq (.seq (.region (.U hT 3 rfl (.nil (.seq (.ret (.of (rs:=[.tmp 6,.tmp 7]) [_,_] (G::Z::r) rfl (.tmp rfl (.tmp rfl .nil)) sl ?_)))))))))))
   try dsimp only[one]
   exact⟨G,g2,rfl,rfl,⟨Qt,hG,TS.right,TR.off.trans TS.off⟩,nr⟩
set_option maxHeartbeats 1000000 in
set_option maxRecDepth 100000 in
theorem Be{x t:Int}{bt:Nat}{r:List Chunk}:aA Tryz.prog 58 [.int .i64 x,.pointer (some ⟨bt,0,none⟩)] ([(bt,blk [.int .i64 t] 2 (0,0))]::r) (fun v' hs'=>v'= .bool (decide (x=t))/\hs'=[(bt,blk [.int .i64 t] 2 (0,0))]::r):=by
 refine aA.enter 7 Tryz.func58 rfl Tryz.ntmps58 rfl ?_
 refine TT.seq (.region (.U hT 1 rfl (.nil (.seq (.seq (.region (.U hT 1 rfl (.load rfl rfl (Ld.one hT rfl hz rfl) rfl ?_))))))))
 refine OT.U hT 2 rfl (.nil (.seq (.ret (.of (rs:=[.tmp 3]) [_] ([(bt,blk [.int .i64 t] 2 (0,0))]::r) rfl (.tmp rfl .nil) sl ?_))))
 try dsimp only[one]
 refine⟨congrArg Value.bool ?_,rfl⟩
 rw[Bool.eq_iff_iff,beq_iff_eq,decide_eq_true_eq]
set_option maxHeartbeats 1000000 in
set_option maxRecDepth 100000 in
theorem D1{P:Value}{I:Chunk->Prop}{Qb:ah}(hP:cW Tryz.prog 5 P I (fun _ _=>False) (aK Qb))(hQ:cQ Qb){b:Nat}{g:aG}{H:Chunk}{r:List Chunk}(hH:gi 110 b P I Qb g H){t:Int}:aA Tryz.prog 18 [.pointer (some ⟨b,0,none⟩),.int .i64 t] (H::r) (fun v' hs'=>(vH t=false/\v'= .tuple ⟨[.int .i64 0,.int .i64 1]⟩/\∃H',hs'=H'::r/\gi 110 b P I Qb g H')\/(vH t=true/\∃H' g',hs'=H'::r/\v'= .tuple ⟨[.int .i64 (wZ g.2 (fun x=>decide (x=t)):Nat),.int .i64 0]⟩/\gi 110 b P I Qb g' H'/\g'.2=Ez g.2 (fun x=>decide (x=t)) dH)):=by
 refine aA.enter 14 Tryz.func18 rfl Tryz.ntmps18 rfl ?_
 refine TT.seq (.region (.box rfl rfl rfl (fun pG=> ?_)))
 refine OT.U hT 2 rfl (.nil (.seq (.seq (.seq (.region (.load rfl rfl (Ld.one hT rfl hz rfl) rfl ?_))))))
 refine OT.call Tryz.call50 rfl rfl rfl rfl (JS) ?_
 rintro CV tD ⟨rfl,rfl⟩
 refine OT.U hT 1 rfl (.nil (.seq (.cond rfl (fun c8=> ?_) (fun c8=> ?_))))
 .
  have c8:vH t=false:=by simpa using c8
  refine TT.seq (.region (.U hT 2 rfl (.nil (.seq (.ret (.of (rs:=[.tmp 4,.tmp 5]) [_,_] (H::r) rfl (.tmp rfl (.tmp rfl .nil)) sl ?_))))))
  try dsimp only[one]
  exact .inl ⟨c8,rfl,H,rfl,hH⟩
 .
  have c8:vH t=true:=by simpa using c8
  refine TT.skip (.seq (.seq (.region (.U hT 2 rfl (.call Tryz.call57 rfl rfl rfl rfl (aA.weaken sl (Md hP hQ hH (Z:=[(pG,blk [.int .i64 t] 2 (0,0))]) (p:=fun x=>decide (x=t)) uZ (ve true) Tryz.call58 Tryz.call59 (fun x r'=>Be) (fun x hs=>DZ))) ?_)))))
  rintro qE kR ⟨H1,g1,rfl,rfl,tJ,Hh⟩
  refine OT.U hT 4 rfl (.nil (.seq (.ret (.of (rs:=[.tmp 4,.tmp 5]) [_,_] (H1::r) rfl (.tmp rfl (.tmp rfl .nil)) sl ?_))))
  try dsimp only[one]
  exact .inr ⟨c8,H1,g1,rfl,rfl,tJ,Hh⟩
end Go.Proofs.YtihpkgmfkbkffaaGreat.Sx
end
section
namespace Go.Proofs.YtihpkgmfkbkffaaGreat.Sx
open Go Go.Sx Go.Pl
variable[au]
set_option maxHeartbeats 2000000 in
set_option maxRecDepth 100000 in
theorem zi{hs:List Chunk}:aA Tryz.prog 89 [] hs (fun v' hs'=>v'= .bool true/\hs=hs'):=by
 refine aA.enter 99 Tryz.func89 rfl Tryz.ntmps89 rfl ?_
 refine TT.seq (.region (.U hT 1 rfl (.nil (.seq (.seq (.region (.build (cs:=aJ (List.replicate 96 (.slice none 0 0))) hT rfl Tryz.zeroValue30 rfl rfl rfl rfl (.box rfl rfl rfl (fun gD=> ?_)))))))))
 refine OT.bO Tryz.underlying26 rfl rfl rfl rfl ?_
 have pK:eL 30 gD tu [(gD,blk (aJ (List.replicate 96 (.slice none 0 0))) 30 (0,0))]:=eL.one (eu.zero [[]])
 show OT _ _ _ _ _ ([(gD,blk (aJ (List.replicate 96 (.slice none 0 0))) 30 (0,0))]::hs)
 generalize([(gD,blk (aJ (List.replicate 96 (.slice none 0 0))) 30 (0,0))]:Chunk)=HB at pK⊢
 refine OT.call Tryz.call15 rfl rfl rfl rfl (Fv pK) ?_
 rintro iT eY ⟨b1,HS,rfl,rfl,Ri⟩
 refine OT.U hT 1 rfl (.nil (.seq (.seq (.region (.build (cs:=dw cB.val) hT rfl Tryz.zeroValue36 rfl rfl rfl rfl (.build (cs:=aj cB) hT rfl Tryz.zeroValue113 rfl rfl rfl rfl (.alloc Tryz.zeroValue113 rfl rfl (fun b_2=> ?_))))))))
 refine OT.ag hT rfl rfl rfl rfl pl rfl rfl rfl (.inl (Nat.le_refl _)) ?_
 refine OT.nil (.seq (.seq (.region (.build (cs:=dw cA.val) hT rfl Tryz.zeroValue36 rfl rfl rfl rfl (.build (cs:=aj cA) hT rfl Tryz.zeroValue113 rfl rfl rfl rfl (.alloc Tryz.zeroValue113 rfl rfl (fun pG=> ?_)))))))
 refine OT.ag hT rfl rfl rfl rfl pl rfl rfl rfl (.inl (Nat.le_refl _)) ?_
 refine OT.nil (.seq (.seq (.draw (([(pG,blk (aj cA) 113 (0,0))]::[(b_2,blk (aj cB) 113 (0,0))]::hs)) mixed (.takes (fuel:=6) hT [0,3] kr kr rfl (.take (fuel:=5) hT 1 rfl rfl kr kr kr rfl (.load rfl (Ld.af hT rfl hz rfl)) rfl ?_)))))
 refine AT.take (fuel:=4) hT 4 rfl rfl kr kr kr rfl (.load rfl (Ld.af hT rfl hz rfl)) rfl ?_
 refine AT.op (fuel:=3) 2 kr rfl sl (.call Tryz.call54 rfl rfl rfl rfl (aA.pull pl (Ar Ri (x:=cB) (by decide))) ?_)
 rintro xb uq ⟨H1,g1,e1,rfl,rfl,MC,GQ⟩
 obtain⟨rfl,Hh⟩:=LG GQ
 refine OT.nil (.any (.op (fuel:=2) 5 kr rfl sl (.call Tryz.call54 rfl rfl rfl rfl (aA.pull pl (Ar MC (x:=cA) (by decide))) ?_)))
 rintro CI Bz ⟨H2,g2,e2,rfl,rfl,jb,qz⟩
 obtain⟨rfl,nr⟩:=LH Hh qz
 refine OT.nil (.any (.takes (fuel:=0) hT [6,7] kr kr rfl (.done kr sl (.seq (.seq (.region (.U hT 1 rfl (.bO Tryz.underlying24 rfl rfl rfl rfl (.call Tryz.call53 rfl rfl rfl rfl (aA.pull pl (L_ jb)) ?_)))))))))
 rintro vw uo ⟨H3,rfl,rfl,GV⟩
 rw[nr,show cz [cA,cB] (⟨#[98]⟩:ByteArray)=some cB from DD]
 refine OT.U hT 4 rfl (.alloc Tryz.zeroValue113 rfl rfl (fun eG=> ?_))
 refine OT.ag hT rfl rfl rfl rfl pl rfl rfl rfl (.inl (Nat.le_refl _)) ?_
 refine OT.U hT 2 rfl (.nil (.seq (.seq (.region (.U hT 1 rfl (.bO Tryz.underlying24 rfl rfl rfl rfl (.call Tryz.call60 rfl rfl rfl rfl (aA.pull pl (I2 GV)) ?_)))))))
 rintro ED Pz ⟨H4,K4,v4,rfl,rfl,GZ,Rj⟩
 rw[Fh,nr]at GZ
 obtain⟨a4,c4,Rk⟩:=(GZ.row (hs:=[])).len
 subst Rk
 refine OT.U hT 5 rfl (.nil (.seq (.seq (.region (.U hT 1 rfl (.call Tryz.call56 rfl rfl rfl rfl (aA.pull pl (L9 Rj)) ?_))))))
 rintro SL PA ⟨H5,g5,rfl,rfl,Rl,Rm,_⟩
 rw[nr,show cz [cA,cB] (⟨#[97]⟩:ByteArray)=some cA from DE]
 refine OT.U hT 5 rfl (.nil (.seq (.seq (.region (.U hT 3 rfl (.U hT 4 rfl (.U hT 3 rfl (.U hT 4 rfl (.U hT 2 rfl (.load rfl rfl (Ld.one hT rfl hz rfl) rfl ?_))))))))))
 refine OT.Qp wj rfl rfl rfl rfl (.U hT 2 rfl (.U hT 5 rfl (.U hT 1 rfl (.index hT rfl rfl rfl rfl (GZ.row.there) (by omega) rfl rfl (fun UM Mf=> ?_)))))
 obtain⟨UN,UO,rfl,I7⟩:=Mf.at (P:=Tryz.prog)
 refine OT.U hT 1 rfl (.load rfl rfl (I7 hT rfl rfl) rfl (.U hT 3 rfl (.U hT 4 rfl (.U hT 3 rfl (.U hT 4 rfl (.U hT 1 rfl (.bO Tryz.underlying24 rfl rfl rfl rfl (.call Tryz.call70 rfl rfl rfl rfl (aA.pull pl (Gx Rl)) ?_))))))))
 rintro Se UP ⟨H6,rfl,rfl,TX⟩
 refine OT.U hT 3 rfl (.U hT 1 rfl (.build (cs:=aj noCell) hT rfl Tryz.zeroValue113 rfl rfl rfl rfl (.call Tryz.call54 rfl rfl rfl rfl (aA.pull pl (Ar TX (x:=noCell) (by decide))) ?_)))
 rintro N6 JU ⟨H7,g7,e7,rfl,rfl,X8,We⟩
 obtain rfl:=LI We
 refine OT.U hT 3 rfl (.nil (.seq (.ret (.of (rs:=[.tmp 0]) [_] hs rfl (.tmp rfl .nil) sl ?_))))
 try dsimp only[one]
 exact⟨rfl,rfl⟩
end Go.Proofs.YtihpkgmfkbkffaaGreat.Sx
end
section
namespace Go.Proofs.YtihpkgmfkbkffaaGreat.Sx
open Go Go.Sx Go.Pl
variable[au]
omit [au] in
theorem p6.good{b:Nat}{g:aG}{H:Chunk}(h:p6 b g H):mU g.2:=by obtain⟨bk,h⟩:=h;exact h.good
theorem As{b:Nat}{g:aG}{H:Chunk}{r:List Chunk}(hH:p6 b g H){t:Int}{k:ByteArray}:aA Tryz.prog 20 [.iface 24 (.pointer (some ⟨b,0,none⟩)),.int .i64 t,.string k] (H::r) (fun v' hs'=>∃H',hs'=H'::r/\v'= .tuple ⟨[.agg ⟨dw (tv g.2 t k)⟩,.int .i64 0]⟩/\p6 b g H'):=by
 obtain⟨bk,h⟩:=hH
 refine(Mc qy gC h).mono ?_
 rintro v' hs' ⟨H',h1,h2,h3⟩
 exact⟨H',h1,h2,bk,h3⟩
theorem yJ{b:Nat}{g:aG}{H:Chunk}{r:List Chunk}(hH:p6 b g H){t:Int}{k:ByteArray}{v:Vl}(Jn:v.f<2^64):aA Tryz.prog 16 [.pointer (some ⟨b,0,none⟩),.int .i64 t,.string k,.agg ⟨dw v⟩] (H::r) (fun v' hs'=>∃H' g' e,hs'=H'::r/\v'= .int .i64 e/\p6 b g' H'/\lu t k v g g' e):=by
 obtain⟨bk,h⟩:=hH
 refine(Gz qy gC h Jn).mono ?_
 rintro v' hs' ⟨H',g',e,h1,h2,h3,h4⟩
 exact⟨H',g',e,h1,h2,⟨bk,h3⟩,h4⟩
theorem D2{b:Nat}{g:aG}{H:Chunk}{r:List Chunk}(hH:p6 b g H){t:Int}(ht:vH t=true):aA Tryz.prog 18 [.pointer (some ⟨b,0,none⟩),.int .i64 t] (H::r) (fun v' hs'=>∃H' g',hs'=H'::r/\v'= .tuple ⟨[.int .i64 (wZ g.2 (fun x=>decide (x=t)):Nat),.int .i64 0]⟩/\p6 b g' H'/\g'.2=Ez g.2 (fun x=>decide (x=t)) dH):=by
 obtain⟨bk,h⟩:=hH
 refine(D1 qy gC h).mono ?_
 rintro v' hs' (⟨h0,_⟩|⟨_,H',g',h1,h2,h3,h4⟩)
 . rw[ht]at h0;cases h0
 . exact⟨H',g',h1,h2,⟨bk,h3⟩,h4⟩
set_option maxHeartbeats 1000000 in
set_option maxRecDepth 100000 in
theorem zj{hs:List Chunk}:aA Tryz.prog 49 [] hs (fun v' hs'=>v'= .bool true/\hs=hs'):=by
 refine aA.enter 2 Tryz.func49 rfl Tryz.ntmps49 rfl ?_
 refine TT.seq (.region (.U hT 1 rfl (.nil (.seq (.seq (.region (.call Tryz.call89 rfl rfl rfl rfl (zi) ?_)))))))
 rintro v_1 SM ⟨rfl,rfl⟩
 refine OT.U hT 1 rfl (.nil (.seq (.ret (.of (rs:=[.tmp 0]) [_] hs rfl (.tmp rfl .nil) sl ?_))))
 try dsimp only[one]
 exact⟨rfl,rfl⟩
set_option maxHeartbeats 2000000 in
set_option maxRecDepth 100000 in
theorem zk{hs:List Chunk}:aA Tryz.prog 14 [] hs (fun v' hs'=>v'= .bool true/\hs=hs'):=by
 refine aA.enter 91 Tryz.func14 rfl Tryz.ntmps14 rfl ?_
 refine TT.seq (.region (.U hT 1 rfl (.nil (.seq (.seq (.region (.build (cs:=aJ (List.replicate 96 (.slice none 0 0))) hT rfl Tryz.zeroValue30 rfl rfl rfl rfl (.box rfl rfl rfl (fun gD=> ?_)))))))))
 refine OT.bO Tryz.underlying26 rfl rfl rfl rfl ?_
 have pK:eL 30 gD tu [(gD,blk (aJ (List.replicate 96 (.slice none 0 0))) 30 (0,0))]:=eL.one (eu.zero [[]])
 show OT _ _ _ _ _ ([(gD,blk (aJ (List.replicate 96 (.slice none 0 0))) 30 (0,0))]::hs)
 generalize([(gD,blk (aJ (List.replicate 96 (.slice none 0 0))) 30 (0,0))]:Chunk)=HB at pK⊢
 refine OT.call Tryz.call15 rfl rfl rfl rfl (Fv pK) ?_
 rintro iT eY ⟨b1,HS,rfl,rfl,Ri⟩
 refine OT.U hT 1 rfl (.nil (.seq (.seq (.region (.build (cs:=dw vF) hT rfl Tryz.zeroValue36 rfl rfl rfl rfl (.alloc Tryz.zeroValue36 rfl rfl (fun b_2=> ?_)))))))
 refine OT.ag hT rfl rfl rfl rfl pl rfl rfl rfl (.inl (Nat.le_refl _)) ?_
 refine OT.nil (.seq (.seq (.region (.U hT 1 rfl (.load rfl rfl (Ld.af hT rfl hz rfl) rfl ?_)))))
 refine OT.call Tryz.call16 rfl rfl rfl rfl (aA.pull pl (yJ Ri (t:=1) (k:=kK) (v:=vF) (by decide))) ?_
 rintro vz rS ⟨H1,g1,e1,rfl,rfl,MC,hw1⟩
 obtain⟨rfl,Hh⟩:=IC hw1
 refine OT.U hT 1 rfl (.nil (.seq (.seq (.region (.U hT 1 rfl (.load rfl rfl (Ld.af hT rfl hz rfl) rfl ?_))))))
 refine OT.call Tryz.call16 rfl rfl rfl rfl (aA.pull pl (yJ MC (t:=2) (k:=kK) (v:=vF) (by decide))) ?_
 rintro xb uq ⟨H2,g2,e2,rfl,rfl,jb,Qa⟩
 obtain⟨rfl,rfl⟩:=ID Hh Qa
 refine OT.U hT 1 rfl (.nil (.seq (.seq (.region (.U hT 1 rfl (.bO Tryz.underlying24 rfl rfl rfl rfl (.call Tryz.call20 rfl rfl rfl rfl (aA.pull pl (As jb (t:=1) (k:=kK))) ?_)))))))
 rintro EC BG ⟨H3,rfl,rfl,GV⟩
 rw[Hh,Ot]
 refine OT.U hT 3 rfl (.alloc Tryz.zeroValue36 rfl rfl (fun g_=> ?_))
 refine OT.ag hT rfl rfl rfl rfl pl rfl rfl rfl (.inl (Nat.le_refl _)) ?_
 refine OT.U hT 1 rfl (.nil (.seq (.seq (.region (.U hT 1 rfl (.bO Tryz.underlying24 rfl rfl rfl rfl (.call Tryz.call20 rfl rfl rfl rfl (aA.pull pl (As GV (t:=2) (k:=kK))) ?_)))))))
 rintro Sa OV ⟨H4,rfl,rfl,Rj⟩
 rw[Hh,Ou]
 refine OT.U hT 3 rfl (.alloc Tryz.zeroValue36 rfl rfl (fun Mu=> ?_))
 refine OT.ag hT rfl rfl rfl rfl pl rfl rfl rfl (.inl (Nat.le_refl _)) ?_
 refine OT.U hT 1 rfl (.nil (.seq (.seq (.region (.U hT 1 rfl (.call Tryz.call18 rfl rfl rfl rfl (aA.pull pl (D2 Rj (t:=1) (by decide))) ?_))))))
 rintro xe ux ⟨H5,g5,rfl,rfl,Rl,Rm⟩
 rw[Hh,Ow]at Rm
 rw[Hh,Ov]
 refine OT.U hT 5 rfl (.nil (.seq (.seq (.region (.U hT 1 rfl (.bO Tryz.underlying24 rfl rfl rfl rfl (.call Tryz.call20 rfl rfl rfl rfl (aA.pull pl (As Rl (t:=0) (k:=kK))) ?_)))))))
 rintro CN uv ⟨H6,rfl,rfl,TX⟩
 rw[Rm,Ox]
 refine OT.U hT 3 rfl (.alloc Tryz.zeroValue36 rfl rfl (fun oa=> ?_))
 refine OT.ag hT rfl rfl rfl rfl pl rfl rfl rfl (.inl (Nat.le_refl _)) ?_
 refine OT.U hT 1 rfl (.nil (.seq (.seq (.region (.call Tryz.call49 rfl rfl rfl rfl (zj) ?_)))))
 rintro Hx BI ⟨rfl,rfl⟩
 refine OT.U hT 1 rfl (.U hT 4 rfl (.U hT 4 rfl (.U hT 1 rfl (.load rfl rfl (Ld.one hT rfl hz rfl) rfl ?_))))
 refine OT.Qp wj rfl rfl rfl rfl (.U hT 2 rfl (.U hT 4 rfl (.U hT 1 rfl (.load rfl rfl (Ld.one hT rfl hz rfl) rfl ?_))))
 refine OT.U hT 3 rfl (.U hT 4 rfl (.U hT 4 rfl (.U hT 4 rfl (.U hT 1 rfl (.load rfl rfl (Ld.one hT rfl hz rfl) rfl ?_)))))
 refine OT.Qp wj rfl rfl rfl rfl (.U hT 2 rfl (.U hT 4 rfl (.nil (.seq (.ret (.of (rs:=[.tmp 0]) [_] hs rfl (.tmp rfl .nil) sl ?_))))))
 try dsimp only[one]
 exact⟨rfl,rfl⟩
end Go.Proofs.YtihpkgmfkbkffaaGreat.Sx
end
section
namespace Go.Proofs.YtihpkgmfkbkffaaGreat.Sx
open Go Go.Sx Go.Pl
variable[au]
theorem oE{bv b:Nat}{s:az}{Q:ah}{I:Chunk->Prop}{H:Chunk}{r:List Chunk}(hI:∀H,I H->eL 30 b Q H)(hB:I H)(fG:(aq s).length=35)(QN:s.side){no:Int}(h1: -9223372036854775808<=no)(h2:no<=9223372036854775807):aA Tryz.prog 41 [.pointer (some ⟨bv,0,none⟩),.int .i64 no] (([(bv,blk (.iface 26 (.pointer (some ⟨b,0,none⟩))::aq s) 134 (0,0))]++H)::r) (fun v' hs'=>∃H' K w,hs'=([(bv,blk (.iface 26 (.pointer (some ⟨b,0,none⟩))::aq s) 134 (0,0))]++H')::K::r/\v'= .tuple ⟨[w,.int .i64 (cH s (aK Q) no).1]⟩/\Own Go.Sx.aB 1 5 w (cH s (aK Q) no).2 K/\I H'):=by
 refine(DQ (E:=fun _ _=>False) (vm hI) hB fG QN h1 h2).mono ?_
 rintro v' hs' ⟨HV,K,w,e,bs,rfl,rfl,ho,hq⟩
 obtain⟨rfl,rfl,H',rfl,Wf⟩:=Gl (I:=xN bv 26 (.pointer (some ⟨b,0,none⟩)) s I) (hq.elim .inl fun⟨a,b,c⟩=> .inr ⟨a,b,c.elim .inl fun⟨_,_,h⟩=>h.elim⟩)
 exact⟨H',K,w,rfl,rfl,ho,Wf⟩
set_option maxHeartbeats 1000000 in
set_option maxRecDepth 100000 in
theorem Bf{no:Int}{hs:List Chunk}:aA Tryz.prog 41 [.pointer none,.int .i64 no] hs (fun v' hs'=>v'= .tuple ⟨[.slice none 0 0,.int .i64 5]⟩/\hs=hs'):=by
 refine aA.enter 47 Tryz.func41 rfl Tryz.ntmps41 rfl ?_
 refine TT.seq (.region (.U hT 2 rfl (.nil (.seq (.seq (.block (.seq (.region (.U hT 3 rfl (.U hT 7 rfl (.nil (.seq (.cond_true rfl (.seq (.region (.U hT 2 rfl (.nil (.seq (.ret (.of (rs:=[.tmp 4,.tmp 5]) [_,_] hs rfl (.tmp rfl (.tmp rfl .nil)) sl ?_))))))))))))))))))))
 try dsimp only[one]
 exact⟨rfl,rfl⟩
set_option maxHeartbeats 1000000 in
set_option maxRecDepth 100000 in
theorem D3{s:az}{hs:List Chunk}(fG:(aq s).length=35):aA Tryz.prog 40 [.nilIface,.agg ⟨aq s⟩] hs (fun v' hs'=>∃bv,v'= .pointer (some ⟨bv,0,none⟩)/\hs'=[(bv,blk (.nilIface::aq s) 134 (0,0))]::hs):=by
 refine aA.enter 9 Tryz.func40 rfl Tryz.ntmps40 rfl ?_
 refine TT.seq (.region (.box rfl rfl rfl (fun pG=> ?_)))
 refine OT.U hT 1 rfl (.nil (.seq (.seq (.region (.U hT 1 rfl (.load rfl rfl (Ld.af hT rfl hz (by exact fG)) rfl ?_))))))
 refine OT.build (cs:= .nilIface::aq s) hT rfl Tryz.zeroValue134 rfl rfl (vj rfl fG kr) rfl (.box rfl rfl rfl (fun fH=> ?_))
 refine OT.U hT 1 rfl (.nil (.seq (.ret (.of (rs:=[.tmp 4]) [_] ([(fH,blk (.nilIface::aq s) 134 (0,0))]::hs) rfl (.tmp rfl .nil) sl ?_))))
 try dsimp only[one]
 exact⟨fH,rfl,rfl⟩
set_option maxHeartbeats 1000000 in
set_option maxRecDepth 100000 in
theorem Bg{bv:Nat}{s:az}{no:Int}{hs:List Chunk}:aA Tryz.prog 41 [.pointer (some ⟨bv,0,none⟩),.int .i64 no] ([(bv,blk (.nilIface::aq s) 134 (0,0))]::hs) (fun v' hs'=>v'= .tuple ⟨[.slice none 0 0,.int .i64 5]⟩/\hs'=[(bv,blk (.nilIface::aq s) 134 (0,0))]::hs):=by
 refine aA.enter 47 Tryz.func41 rfl Tryz.ntmps41 rfl ?_
 refine TT.seq (.region (.U hT 2 rfl (.nil (.seq (.seq (.block (.seq (.region (.U hT 3 rfl (.U hT 3 rfl (.load rfl rfl (Ld.one hT rfl hz rfl) rfl ?_)))))))))))
 refine OT.IE hT rfl rfl rfl rfl (.U hT 2 rfl (.nil (.seq (.cond_true rfl (.seq (.region (.U hT 2 rfl (.nil (.seq (.ret (.of (rs:=[.tmp 4,.tmp 5]) [_,_] ([(bv,blk (.nilIface::aq s) 134 (0,0))]::hs) rfl (.tmp rfl (.tmp rfl .nil)) sl ?_)))))))))))
 try dsimp only[one]
 exact⟨rfl,rfl⟩
set_option maxHeartbeats 1000000 in
set_option maxRecDepth 100000 in
theorem zl{hs:List Chunk}:aA Tryz.prog 71 [] hs (fun v' hs'=>v'= .bool true/\hs=hs'):=by
 refine aA.enter 2 Tryz.func71 rfl Tryz.ntmps71 rfl ?_
 refine TT.seq (.region (.U hT 1 rfl (.nil (.seq (.seq (.region (.call Tryz.call14 rfl rfl rfl rfl (zk) ?_)))))))
 rintro v_1 SM ⟨rfl,rfl⟩
 refine OT.U hT 1 rfl (.nil (.seq (.ret (.of (rs:=[.tmp 0]) [_] hs rfl (.tmp rfl .nil) sl ?_))))
 try dsimp only[one]
 exact⟨rfl,rfl⟩
set_option maxHeartbeats 8000000 in
set_option maxRecDepth 100000 in
theorem lU{hs:List Chunk}:aA Tryz.prog 38 [] hs (fun v' hs'=>v'= .bool true/\hs=hs'):=by
 refine aA.enter 75 Tryz.func38 rfl Tryz.ntmps38 rfl ?_
 refine TT.seq (.region (.U hT 1 rfl (.nil (.seq (.seq (.region (.build (cs:=aJ (List.replicate 96 (.slice none 0 0))) hT rfl Tryz.zeroValue30 rfl rfl kr rfl (.box rfl rfl rfl (fun oa=> ?_)))))))))
 have pK:eL 30 oa tu [(oa,blk (aJ (List.replicate 96 (.slice none 0 0))) 30 (0,0))]:=eL.one (eu.zero [[]])
 show OT _ _ _ _ _ ([(oa,blk (aJ (List.replicate 96 (.slice none 0 0))) 30 (0,0))]::hs)
 generalize([(oa,blk (aJ (List.replicate 96 (.slice none 0 0))) 30 (0,0))]:Chunk)=HB at pK⊢
 refine OT.U hT 1 rfl (.nil (.seq (.cut (ι:=Chunk) (fun j=>eL 30 oa vT (j)) (fun j=>[(1,.pointer (some ⟨oa,0,none⟩))]) (fun j=>(j)::hs) ?_ ?_)))
 .
  refine TT.draw (hs) mixed (.takes (fuel:=10) hT [0,1,8,9,12,13] kr kr rfl (.all (fuel:=9) [2,5] kr (by decide) sl ?_))
  intro i hi
  simp only[List.mem_cons,List.not_mem_nil,or_false]at hi
  rcases hi with rfl|rfl
  .
   refine⟨_,rfl,?_⟩
   refine OT.bI (enc:=Go.Sx.aB) (xs:=([110,111,119]:List UInt8)) (gQ:=[.const (.int .u8 (110)),.const (.int .u8 (111)),.const (.int .u8 (119))]) eW rfl rfl rfl rfl rfl (by simp[Value.cells]) (fun _ _=>rfl) rfl (by decide) rfl (fun gD=> ?_)
   refine OT.nil (.any (.all (fuel:=8) [3,5] kr (by decide) sl ?_))
   intro i hi
   simp only[List.mem_cons,List.not_mem_nil,or_false]at hi
   rcases hi with rfl|rfl
   .
    refine⟨_,rfl,?_⟩
    refine OT.cF hT rfl rfl rfl rfl pl rfl ?_
    have Ni:Own Go.Sx.aB 1 5 (.slice (some ⟨gD,0,none⟩) 3 3) [110,111,119] [(gD,blk (([110,111,119]:List UInt8).flatMap Go.Sx.aB) 5 ((([110,111,119]:List UInt8).flatMap Go.Sx.aB).length,(([110,111,119]:List UInt8).flatMap Go.Sx.aB).length+1))]:=Own.marked (e:=5) (fun _ _=>rfl) rfl
    refine OT.nil (.any (.all (fuel:=7) [4,5] kr (by decide) sl ?_))
    intro i hi
    simp only[List.mem_cons,List.not_mem_nil,or_false]at hi
    rcases hi with rfl|rfl
    .
     refine⟨_,rfl,?_⟩
     refine OT.call Tryz.call39 rfl rfl rfl rfl (cR ro (by simp)) ?_
     rintro iT eY ⟨KA,rfl,iF⟩
     refine OT.nil (.any (.op (fuel:=6) 5 kr rfl sl (.bI (enc:=Go.Sx.aB) (xs:=([119,97,115]:List UInt8)) (gQ:=[.const (.int .u8 (119)),.const (.int .u8 (97)),.const (.int .u8 (115))]) eW rfl rfl rfl rfl rfl (by simp[Value.cells]) (fun _ _=>rfl) rfl (by decide) rfl (fun gX=> ?_))))
     refine OT.nil (.any (.op (fuel:=5) 6 kr rfl sl (.cF hT rfl rfl rfl rfl pl rfl ?_)))
     have Hi:Own Go.Sx.aB 1 5 (.slice (some ⟨gX,0,none⟩) 3 3) [119,97,115] [(gX,blk (([119,97,115]:List UInt8).flatMap Go.Sx.aB) 5 ((([119,97,115]:List UInt8).flatMap Go.Sx.aB).length,(([119,97,115]:List UInt8).flatMap Go.Sx.aB).length+1))]:=Own.marked (e:=5) (fun _ _=>rfl) rfl
     refine OT.nil (.any (.op (fuel:=4) 7 kr rfl sl (.call Tryz.call39 rfl rfl rfl rfl (cR ro (by simp)) ?_)))
     rintro jY iE ⟨KB,rfl,iG⟩
     refine OT.nil (.any (.aT (fuel:=3) hT 10 rfl kr kr kr rfl rfl rfl rfl (by omega) (by decide) rfl (.op (fuel:=2) 11 kr rfl sl (.bY (no:=3) hT rfl rfl rfl rfl pl pK pl iF (aQ (by simp)) rfl (by decide) (fun BU jZ vE=> ?_)))))
     refine OT.nil (.any (.aT (fuel:=1) hT 14 rfl kr kr kr rfl rfl rfl rfl (by omega) (by decide) rfl (.op (fuel:=0) 15 kr rfl sl (.bY (no:=40) hT rfl rfl rfl rfl pl jZ pl iG (aQ (by simp)) rfl (by decide) (fun jH ir rL=> ?_)))))
     refine OT.nil (.any (.done kr sl (.cut (jH) ?_ (aa.cons rfl (aa.nil _)) sl)))
     . exact ir
    .
     refine⟨_,rfl,?_⟩
     refine OT.bI (enc:=Go.Sx.aB) (xs:=([119,97,115]:List UInt8)) (gQ:=[.const (.int .u8 (119)),.const (.int .u8 (97)),.const (.int .u8 (115))]) eW rfl rfl rfl rfl rfl (by simp[Value.cells]) (fun _ _=>rfl) rfl (by decide) rfl (fun gX=> ?_)
     refine OT.nil (.any (.all (fuel:=6) [4,6] kr (by decide) sl ?_))
     intro i hi
     simp only[List.mem_cons,List.not_mem_nil,or_false]at hi
     rcases hi with rfl|rfl
     .
      refine⟨_,rfl,?_⟩
      refine OT.call Tryz.call39 rfl rfl rfl rfl (cR ro (by simp)) ?_
      rintro iT eY ⟨KA,rfl,iF⟩
      refine OT.nil (.any (.op (fuel:=5) 6 kr rfl sl (.cF hT rfl rfl rfl rfl pl rfl ?_)))
      have Hi:Own Go.Sx.aB 1 5 (.slice (some ⟨gX,0,none⟩) 3 3) [119,97,115] [(gX,blk (([119,97,115]:List UInt8).flatMap Go.Sx.aB) 5 ((([119,97,115]:List UInt8).flatMap Go.Sx.aB).length,(([119,97,115]:List UInt8).flatMap Go.Sx.aB).length+1))]:=Own.marked (e:=5) (fun _ _=>rfl) rfl
      refine OT.nil (.any (.op (fuel:=4) 7 kr rfl sl (.call Tryz.call39 rfl rfl rfl rfl (cR ro (by simp)) ?_)))
      rintro jY iE ⟨KB,rfl,iG⟩
      refine OT.nil (.any (.aT (fuel:=3) hT 10 rfl kr kr kr rfl rfl rfl rfl (by omega) (by decide) rfl (.op (fuel:=2) 11 kr rfl sl (.bY (no:=3) hT rfl rfl rfl rfl pl pK pl iF (aQ (by simp)) rfl (by decide) (fun BU jZ vE=> ?_)))))
      refine OT.nil (.any (.aT (fuel:=1) hT 14 rfl kr kr kr rfl rfl rfl rfl (by omega) (by decide) rfl (.op (fuel:=0) 15 kr rfl sl (.bY (no:=40) hT rfl rfl rfl rfl pl jZ pl iG (aQ (by simp)) rfl (by decide) (fun jH ir rL=> ?_)))))
      refine OT.nil (.any (.done kr sl (.cut (jH) ?_ (aa.cons rfl (aa.nil _)) sl)))
      . exact ir
     .
      refine⟨_,rfl,?_⟩
      refine OT.cF hT rfl rfl rfl rfl pl rfl ?_
      have Hi:Own Go.Sx.aB 1 5 (.slice (some ⟨gX,0,none⟩) 3 3) [119,97,115] [(gX,blk (([119,97,115]:List UInt8).flatMap Go.Sx.aB) 5 ((([119,97,115]:List UInt8).flatMap Go.Sx.aB).length,(([119,97,115]:List UInt8).flatMap Go.Sx.aB).length+1))]:=Own.marked (e:=5) (fun _ _=>rfl) rfl
      refine OT.nil (.any (.op (fuel:=5) 4 kr rfl sl (.call Tryz.call39 rfl rfl rfl rfl (cR ro (by simp)) ?_)))
      rintro iT eY ⟨KA,rfl,iF⟩
      refine OT.nil (.any (.op (fuel:=4) 7 kr rfl sl (.call Tryz.call39 rfl rfl rfl rfl (cR ro (by simp)) ?_)))
      rintro jY iE ⟨KB,rfl,iG⟩
      refine OT.nil (.any (.aT (fuel:=3) hT 10 rfl kr kr kr rfl rfl rfl rfl (by omega) (by decide) rfl (.op (fuel:=2) 11 kr rfl sl (.bY (no:=3) hT rfl rfl rfl rfl pl pK pl iF (aQ (by simp)) rfl (by decide) (fun BU jZ vE=> ?_)))))
      refine OT.nil (.any (.aT (fuel:=1) hT 14 rfl kr kr kr rfl rfl rfl rfl (by omega) (by decide) rfl (.op (fuel:=0) 15 kr rfl sl (.bY (no:=40) hT rfl rfl rfl rfl pl jZ pl iG (aQ (by simp)) rfl (by decide) (fun jH ir rL=> ?_)))))
      refine OT.nil (.any (.done kr sl (.cut (jH) ?_ (aa.cons rfl (aa.nil _)) sl)))
      . exact ir
   .
    refine⟨_,rfl,?_⟩
    refine OT.bI (enc:=Go.Sx.aB) (xs:=([119,97,115]:List UInt8)) (gQ:=[.const (.int .u8 (119)),.const (.int .u8 (97)),.const (.int .u8 (115))]) eW rfl rfl rfl rfl rfl (by simp[Value.cells]) (fun _ _=>rfl) rfl (by decide) rfl (fun gX=> ?_)
    refine OT.nil (.any (.all (fuel:=7) [3,6] kr (by decide) sl ?_))
    intro i hi
    simp only[List.mem_cons,List.not_mem_nil,or_false]at hi
    rcases hi with rfl|rfl
    .
     refine⟨_,rfl,?_⟩
     refine OT.cF hT rfl rfl rfl rfl pl rfl ?_
     have Ni:Own Go.Sx.aB 1 5 (.slice (some ⟨gD,0,none⟩) 3 3) [110,111,119] [(gD,blk (([110,111,119]:List UInt8).flatMap Go.Sx.aB) 5 ((([110,111,119]:List UInt8).flatMap Go.Sx.aB).length,(([110,111,119]:List UInt8).flatMap Go.Sx.aB).length+1))]:=Own.marked (e:=5) (fun _ _=>rfl) rfl
     refine OT.nil (.any (.all (fuel:=6) [4,6] kr (by decide) sl ?_))
     intro i hi
     simp only[List.mem_cons,List.not_mem_nil,or_false]at hi
     rcases hi with rfl|rfl
     .
      refine⟨_,rfl,?_⟩
      refine OT.call Tryz.call39 rfl rfl rfl rfl (cR ro (by simp)) ?_
      rintro iT eY ⟨KA,rfl,iF⟩
      refine OT.nil (.any (.op (fuel:=5) 6 kr rfl sl (.cF hT rfl rfl rfl rfl pl rfl ?_)))
      have Hi:Own Go.Sx.aB 1 5 (.slice (some ⟨gX,0,none⟩) 3 3) [119,97,115] [(gX,blk (([119,97,115]:List UInt8).flatMap Go.Sx.aB) 5 ((([119,97,115]:List UInt8).flatMap Go.Sx.aB).length,(([119,97,115]:List UInt8).flatMap Go.Sx.aB).length+1))]:=Own.marked (e:=5) (fun _ _=>rfl) rfl
      refine OT.nil (.any (.op (fuel:=4) 7 kr rfl sl (.call Tryz.call39 rfl rfl rfl rfl (cR ro (by simp)) ?_)))
      rintro jY iE ⟨KB,rfl,iG⟩
      refine OT.nil (.any (.aT (fuel:=3) hT 10 rfl kr kr kr rfl rfl rfl rfl (by omega) (by decide) rfl (.op (fuel:=2) 11 kr rfl sl (.bY (no:=3) hT rfl rfl rfl rfl pl pK pl iF (aQ (by simp)) rfl (by decide) (fun BU jZ vE=> ?_)))))
      refine OT.nil (.any (.aT (fuel:=1) hT 14 rfl kr kr kr rfl rfl rfl rfl (by omega) (by decide) rfl (.op (fuel:=0) 15 kr rfl sl (.bY (no:=40) hT rfl rfl rfl rfl pl jZ pl iG (aQ (by simp)) rfl (by decide) (fun jH ir rL=> ?_)))))
      refine OT.nil (.any (.done kr sl (.cut (jH) ?_ (aa.cons rfl (aa.nil _)) sl)))
      . exact ir
     .
      refine⟨_,rfl,?_⟩
      refine OT.cF hT rfl rfl rfl rfl pl rfl ?_
      have Hi:Own Go.Sx.aB 1 5 (.slice (some ⟨gX,0,none⟩) 3 3) [119,97,115] [(gX,blk (([119,97,115]:List UInt8).flatMap Go.Sx.aB) 5 ((([119,97,115]:List UInt8).flatMap Go.Sx.aB).length,(([119,97,115]:List UInt8).flatMap Go.Sx.aB).length+1))]:=Own.marked (e:=5) (fun _ _=>rfl) rfl
      refine OT.nil (.any (.op (fuel:=5) 4 kr rfl sl (.call Tryz.call39 rfl rfl rfl rfl (cR ro (by simp)) ?_)))
      rintro iT eY ⟨KA,rfl,iF⟩
      refine OT.nil (.any (.op (fuel:=4) 7 kr rfl sl (.call Tryz.call39 rfl rfl rfl rfl (cR ro (by simp)) ?_)))
      rintro jY iE ⟨KB,rfl,iG⟩
      refine OT.nil (.any (.aT (fuel:=3) hT 10 rfl kr kr kr rfl rfl rfl rfl (by omega) (by decide) rfl (.op (fuel:=2) 11 kr rfl sl (.bY (no:=3) hT rfl rfl rfl rfl pl pK pl iF (aQ (by simp)) rfl (by decide) (fun BU jZ vE=> ?_)))))
      refine OT.nil (.any (.aT (fuel:=1) hT 14 rfl kr kr kr rfl rfl rfl rfl (by omega) (by decide) rfl (.op (fuel:=0) 15 kr rfl sl (.bY (no:=40) hT rfl rfl rfl rfl pl jZ pl iG (aQ (by simp)) rfl (by decide) (fun jH ir rL=> ?_)))))
      refine OT.nil (.any (.done kr sl (.cut (jH) ?_ (aa.cons rfl (aa.nil _)) sl)))
      . exact ir
    .
     refine⟨_,rfl,?_⟩
     refine OT.cF hT rfl rfl rfl rfl pl rfl ?_
     have Hi:Own Go.Sx.aB 1 5 (.slice (some ⟨gX,0,none⟩) 3 3) [119,97,115] [(gX,blk (([119,97,115]:List UInt8).flatMap Go.Sx.aB) 5 ((([119,97,115]:List UInt8).flatMap Go.Sx.aB).length,(([119,97,115]:List UInt8).flatMap Go.Sx.aB).length+1))]:=Own.marked (e:=5) (fun _ _=>rfl) rfl
     refine OT.nil (.any (.op (fuel:=6) 3 kr rfl sl (.cF hT rfl rfl rfl rfl pl rfl ?_)))
     have Ni:Own Go.Sx.aB 1 5 (.slice (some ⟨gD,0,none⟩) 3 3) [110,111,119] [(gD,blk (([110,111,119]:List UInt8).flatMap Go.Sx.aB) 5 ((([110,111,119]:List UInt8).flatMap Go.Sx.aB).length,(([110,111,119]:List UInt8).flatMap Go.Sx.aB).length+1))]:=Own.marked (e:=5) (fun _ _=>rfl) rfl
     refine OT.nil (.any (.op (fuel:=5) 4 kr rfl sl (.call Tryz.call39 rfl rfl rfl rfl (cR ro (by simp)) ?_)))
     rintro iT eY ⟨KA,rfl,iF⟩
     refine OT.nil (.any (.op (fuel:=4) 7 kr rfl sl (.call Tryz.call39 rfl rfl rfl rfl (cR ro (by simp)) ?_)))
     rintro jY iE ⟨KB,rfl,iG⟩
     refine OT.nil (.any (.aT (fuel:=3) hT 10 rfl kr kr kr rfl rfl rfl rfl (by omega) (by decide) rfl (.op (fuel:=2) 11 kr rfl sl (.bY (no:=3) hT rfl rfl rfl rfl pl pK pl iF (aQ (by simp)) rfl (by decide) (fun BU jZ vE=> ?_)))))
     refine OT.nil (.any (.aT (fuel:=1) hT 14 rfl kr kr kr rfl rfl rfl rfl (by omega) (by decide) rfl (.op (fuel:=0) 15 kr rfl sl (.bY (no:=40) hT rfl rfl rfl rfl pl jZ pl iG (aQ (by simp)) rfl (by decide) (fun jH ir rL=> ?_)))))
     refine OT.nil (.any (.done kr sl (.cut (jH) ?_ (aa.cons rfl (aa.nil _)) sl)))
     . exact ir
  .
   refine⟨_,rfl,?_⟩
   refine OT.bI (enc:=Go.Sx.aB) (xs:=([119,97,115]:List UInt8)) (gQ:=[.const (.int .u8 (119)),.const (.int .u8 (97)),.const (.int .u8 (115))]) eW rfl rfl rfl rfl rfl (by simp[Value.cells]) (fun _ _=>rfl) rfl (by decide) rfl (fun gX=> ?_)
   refine OT.nil (.any (.all (fuel:=8) [2,6] kr (by decide) sl ?_))
   intro i hi
   simp only[List.mem_cons,List.not_mem_nil,or_false]at hi
   rcases hi with rfl|rfl
   .
    refine⟨_,rfl,?_⟩
    refine OT.bI (enc:=Go.Sx.aB) (xs:=([110,111,119]:List UInt8)) (gQ:=[.const (.int .u8 (110)),.const (.int .u8 (111)),.const (.int .u8 (119))]) eW rfl rfl rfl rfl rfl (by simp[Value.cells]) (fun _ _=>rfl) rfl (by decide) rfl (fun gD=> ?_)
    refine OT.nil (.any (.all (fuel:=7) [3,6] kr (by decide) sl ?_))
    intro i hi
    simp only[List.mem_cons,List.not_mem_nil,or_false]at hi
    rcases hi with rfl|rfl
    .
     refine⟨_,rfl,?_⟩
     refine OT.cF hT rfl rfl rfl rfl pl rfl ?_
     have Ni:Own Go.Sx.aB 1 5 (.slice (some ⟨gD,0,none⟩) 3 3) [110,111,119] [(gD,blk (([110,111,119]:List UInt8).flatMap Go.Sx.aB) 5 ((([110,111,119]:List UInt8).flatMap Go.Sx.aB).length,(([110,111,119]:List UInt8).flatMap Go.Sx.aB).length+1))]:=Own.marked (e:=5) (fun _ _=>rfl) rfl
     refine OT.nil (.any (.all (fuel:=6) [4,6] kr (by decide) sl ?_))
     intro i hi
     simp only[List.mem_cons,List.not_mem_nil,or_false]at hi
     rcases hi with rfl|rfl
     .
      refine⟨_,rfl,?_⟩
      refine OT.call Tryz.call39 rfl rfl rfl rfl (cR ro (by simp)) ?_
      rintro iT eY ⟨KA,rfl,iF⟩
      refine OT.nil (.any (.op (fuel:=5) 6 kr rfl sl (.cF hT rfl rfl rfl rfl pl rfl ?_)))
      have Hi:Own Go.Sx.aB 1 5 (.slice (some ⟨gX,0,none⟩) 3 3) [119,97,115] [(gX,blk (([119,97,115]:List UInt8).flatMap Go.Sx.aB) 5 ((([119,97,115]:List UInt8).flatMap Go.Sx.aB).length,(([119,97,115]:List UInt8).flatMap Go.Sx.aB).length+1))]:=Own.marked (e:=5) (fun _ _=>rfl) rfl
      refine OT.nil (.any (.op (fuel:=4) 7 kr rfl sl (.call Tryz.call39 rfl rfl rfl rfl (cR ro (by simp)) ?_)))
      rintro jY iE ⟨KB,rfl,iG⟩
      refine OT.nil (.any (.aT (fuel:=3) hT 10 rfl kr kr kr rfl rfl rfl rfl (by omega) (by decide) rfl (.op (fuel:=2) 11 kr rfl sl (.bY (no:=3) hT rfl rfl rfl rfl pl pK pl iF (aQ (by simp)) rfl (by decide) (fun BU jZ vE=> ?_)))))
      refine OT.nil (.any (.aT (fuel:=1) hT 14 rfl kr kr kr rfl rfl rfl rfl (by omega) (by decide) rfl (.op (fuel:=0) 15 kr rfl sl (.bY (no:=40) hT rfl rfl rfl rfl pl jZ pl iG (aQ (by simp)) rfl (by decide) (fun jH ir rL=> ?_)))))
      refine OT.nil (.any (.done kr sl (.cut (jH) ?_ (aa.cons rfl (aa.nil _)) sl)))
      . exact ir
     .
      refine⟨_,rfl,?_⟩
      refine OT.cF hT rfl rfl rfl rfl pl rfl ?_
      have Hi:Own Go.Sx.aB 1 5 (.slice (some ⟨gX,0,none⟩) 3 3) [119,97,115] [(gX,blk (([119,97,115]:List UInt8).flatMap Go.Sx.aB) 5 ((([119,97,115]:List UInt8).flatMap Go.Sx.aB).length,(([119,97,115]:List UInt8).flatMap Go.Sx.aB).length+1))]:=Own.marked (e:=5) (fun _ _=>rfl) rfl
      refine OT.nil (.any (.op (fuel:=5) 4 kr rfl sl (.call Tryz.call39 rfl rfl rfl rfl (cR ro (by simp)) ?_)))
      rintro iT eY ⟨KA,rfl,iF⟩
      refine OT.nil (.any (.op (fuel:=4) 7 kr rfl sl (.call Tryz.call39 rfl rfl rfl rfl (cR ro (by simp)) ?_)))
      rintro jY iE ⟨KB,rfl,iG⟩
      refine OT.nil (.any (.aT (fuel:=3) hT 10 rfl kr kr kr rfl rfl rfl rfl (by omega) (by decide) rfl (.op (fuel:=2) 11 kr rfl sl (.bY (no:=3) hT rfl rfl rfl rfl pl pK pl iF (aQ (by simp)) rfl (by decide) (fun BU jZ vE=> ?_)))))
      refine OT.nil (.any (.aT (fuel:=1) hT 14 rfl kr kr kr rfl rfl rfl rfl (by omega) (by decide) rfl (.op (fuel:=0) 15 kr rfl sl (.bY (no:=40) hT rfl rfl rfl rfl pl jZ pl iG (aQ (by simp)) rfl (by decide) (fun jH ir rL=> ?_)))))
      refine OT.nil (.any (.done kr sl (.cut (jH) ?_ (aa.cons rfl (aa.nil _)) sl)))
      . exact ir
    .
     refine⟨_,rfl,?_⟩
     refine OT.cF hT rfl rfl rfl rfl pl rfl ?_
     have Hi:Own Go.Sx.aB 1 5 (.slice (some ⟨gX,0,none⟩) 3 3) [119,97,115] [(gX,blk (([119,97,115]:List UInt8).flatMap Go.Sx.aB) 5 ((([119,97,115]:List UInt8).flatMap Go.Sx.aB).length,(([119,97,115]:List UInt8).flatMap Go.Sx.aB).length+1))]:=Own.marked (e:=5) (fun _ _=>rfl) rfl
     refine OT.nil (.any (.op (fuel:=6) 3 kr rfl sl (.cF hT rfl rfl rfl rfl pl rfl ?_)))
     have Ni:Own Go.Sx.aB 1 5 (.slice (some ⟨gD,0,none⟩) 3 3) [110,111,119] [(gD,blk (([110,111,119]:List UInt8).flatMap Go.Sx.aB) 5 ((([110,111,119]:List UInt8).flatMap Go.Sx.aB).length,(([110,111,119]:List UInt8).flatMap Go.Sx.aB).length+1))]:=Own.marked (e:=5) (fun _ _=>rfl) rfl
     refine OT.nil (.any (.op (fuel:=5) 4 kr rfl sl (.call Tryz.call39 rfl rfl rfl rfl (cR ro (by simp)) ?_)))
     rintro iT eY ⟨KA,rfl,iF⟩
     refine OT.nil (.any (.op (fuel:=4) 7 kr rfl sl (.call Tryz.call39 rfl rfl rfl rfl (cR ro (by simp)) ?_)))
     rintro jY iE ⟨KB,rfl,iG⟩
     refine OT.nil (.any (.aT (fuel:=3) hT 10 rfl kr kr kr rfl rfl rfl rfl (by omega) (by decide) rfl (.op (fuel:=2) 11 kr rfl sl (.bY (no:=3) hT rfl rfl rfl rfl pl pK pl iF (aQ (by simp)) rfl (by decide) (fun BU jZ vE=> ?_)))))
     refine OT.nil (.any (.aT (fuel:=1) hT 14 rfl kr kr kr rfl rfl rfl rfl (by omega) (by decide) rfl (.op (fuel:=0) 15 kr rfl sl (.bY (no:=40) hT rfl rfl rfl rfl pl jZ pl iG (aQ (by simp)) rfl (by decide) (fun jH ir rL=> ?_)))))
     refine OT.nil (.any (.done kr sl (.cut (jH) ?_ (aa.cons rfl (aa.nil _)) sl)))
     . exact ir
   .
    refine⟨_,rfl,?_⟩
    refine OT.cF hT rfl rfl rfl rfl pl rfl ?_
    have Hi:Own Go.Sx.aB 1 5 (.slice (some ⟨gX,0,none⟩) 3 3) [119,97,115] [(gX,blk (([119,97,115]:List UInt8).flatMap Go.Sx.aB) 5 ((([119,97,115]:List UInt8).flatMap Go.Sx.aB).length,(([119,97,115]:List UInt8).flatMap Go.Sx.aB).length+1))]:=Own.marked (e:=5) (fun _ _=>rfl) rfl
    refine OT.nil (.any (.op (fuel:=7) 2 kr rfl sl (.bI (enc:=Go.Sx.aB) (xs:=([110,111,119]:List UInt8)) (gQ:=[.const (.int .u8 (110)),.const (.int .u8 (111)),.const (.int .u8 (119))]) eW rfl rfl rfl rfl rfl (by simp[Value.cells]) (fun _ _=>rfl) rfl (by decide) rfl (fun gD=> ?_))))
    refine OT.nil (.any (.op (fuel:=6) 3 kr rfl sl (.cF hT rfl rfl rfl rfl pl rfl ?_)))
    have Ni:Own Go.Sx.aB 1 5 (.slice (some ⟨gD,0,none⟩) 3 3) [110,111,119] [(gD,blk (([110,111,119]:List UInt8).flatMap Go.Sx.aB) 5 ((([110,111,119]:List UInt8).flatMap Go.Sx.aB).length,(([110,111,119]:List UInt8).flatMap Go.Sx.aB).length+1))]:=Own.marked (e:=5) (fun _ _=>rfl) rfl
    refine OT.nil (.any (.op (fuel:=5) 4 kr rfl sl (.call Tryz.call39 rfl rfl rfl rfl (cR ro (by simp)) ?_)))
    rintro iT eY ⟨KA,rfl,iF⟩
    refine OT.nil (.any (.op (fuel:=4) 7 kr rfl sl (.call Tryz.call39 rfl rfl rfl rfl (cR ro (by simp)) ?_)))
    rintro jY iE ⟨KB,rfl,iG⟩
    refine OT.nil (.any (.aT (fuel:=3) hT 10 rfl kr kr kr rfl rfl rfl rfl (by omega) (by decide) rfl (.op (fuel:=2) 11 kr rfl sl (.bY (no:=3) hT rfl rfl rfl rfl pl pK pl iF (aQ (by simp)) rfl (by decide) (fun BU jZ vE=> ?_)))))
    refine OT.nil (.any (.aT (fuel:=1) hT 14 rfl kr kr kr rfl rfl rfl rfl (by omega) (by decide) rfl (.op (fuel:=0) 15 kr rfl sl (.bY (no:=40) hT rfl rfl rfl rfl pl jZ pl iG (aQ (by simp)) rfl (by decide) (fun jH ir rL=> ?_)))))
    refine OT.nil (.any (.done kr sl (.cut (jH) ?_ (aa.cons rfl (aa.nil _)) sl)))
    . exact ir
 .
  rintro H1 PV
  show TT _ _ _ [(1,.pointer (some ⟨oa,0,none⟩))] (H1::hs)
  refine TT.seq (.region (.build (cs:=aq {sV with map:=List.replicate 32 0}) hT rfl Tryz.zeroValue83 rfl rfl kr rfl (.alloc Tryz.zeroValue83 rfl rfl (fun b_2=> ?_))))
  refine OT.ag hT rfl rfl rfl rfl pl rfl rfl rfl (.inl (Nat.le_refl _)) ?_
  refine OT.nil (.seq (.seq (.region (.U hT 1 rfl (.aT hT rfl rfl rfl rfl (by omega) (by decide) rfl (.store hT rfl rfl rfl rfl pl rfl (by decide) rfl (.inl (Nat.le_refl _)) (show splice _ _ _=aq sV by kernel_rfl) ?_))))))
  refine OT.nil (.seq (.seq (.region (.U hT 1 rfl (.bO Tryz.underlying26 rfl rfl rfl rfl (.load rfl rfl (Ld.af hT rfl hz xH) rfl ?_))))))
  refine OT.call Tryz.call40 rfl rfl rfl rfl (oU rfl xH) ?_
  rintro Hu EY ⟨bv,rfl,rfl⟩
  refine OT.weaken (aa.refl _) (sl (hs':=([(bv,blk (.iface 26 (.pointer (some ⟨oa,0,none⟩))::aq sV) 134 (0,0))]++H1)::hs)) (.U hT 1 rfl (.nil (.seq (.seq (.seq (.region (.U hT 2 rfl (.nil (.seq (.cond_false rfl (.skip (.seq (.seq (.region (.U hT 1 rfl (.call Tryz.call41 rfl rfl rfl rfl (aA.pull pl (oE (fun _ h=>h) PV xH wm (no:=3) (by decide) (by decide))) ?_))))))))))))))))
  rintro ED Pz ⟨H3,K3,w3,rfl,rfl,kn,Wg⟩
  rw[y4]at kn⊢
  dsimp only at kn
  obtain⟨a3,c3,Hj⟩:=(kn.row (hs:=[])).len
  subst Hj
  refine OT.U hT 5 rfl (.nil (.seq (.seq (.region (.U hT 1 rfl (.call Tryz.call41 rfl rfl rfl rfl (aA.pull pl (oE (fun _ h=>h) Wg xH wm (no:=4) (by decide) (by decide))) ?_))))))
  rintro SL PA ⟨H4,K4,w4,rfl,rfl,GZ,Wh⟩
  rw[y5]at GZ⊢
  dsimp only at GZ
  obtain⟨a4,c4,Rk⟩:=(GZ.row (hs:=[])).len
  subst Rk
  refine OT.U hT 5 rfl (.nil (.seq (.seq (.region (.U hT 1 rfl (.call Tryz.call41 rfl rfl rfl rfl (aA.pull pl (oE (fun _ h=>h) Wh xH wm (no:=40) (by decide) (by decide))) ?_))))))
  rintro Hx BI ⟨H5,K5,w5,rfl,rfl,Rn,X9⟩
  rw[wM]at Rn⊢
  dsimp only at Rn
  obtain⟨a5,c5,Wi⟩:=(Rn.row (hs:=[])).len
  subst Wi
  refine OT.U hT 5 rfl (.nil (.seq (.seq (.region (.call Tryz.call71 rfl rfl rfl rfl (zl) ?_)))))
  rintro zJ xT ⟨rfl,rfl⟩
  refine OT.U hT 1 rfl (.U hT 4 rfl (.U hT 1 rfl (.index hT rfl rfl rfl rfl ro (by omega) (show(iJ [119,97,115])[0]? =some 119 by kernel_rfl) rfl (fun PB At=> ?_))))
  refine OT.load rfl rfl (At.bL hT rfl rfl) rfl (.U hT 3 rfl (.U hT 4 rfl (.U hT 1 rfl (.index hT rfl rfl rfl rfl ro (by omega) (show(dO 256)[0]? =some 0 by kernel_rfl) rfl (fun UQ Mg=> ?_)))))
  refine OT.load rfl rfl (Mg.bL hT rfl rfl) rfl (.U hT 3 rfl (.U hT 4 rfl (.nil (.seq (.ret (.of (rs:=[.tmp 0]) [_] hs rfl (.tmp rfl .nil) sl ?_))))))
  try dsimp only[one]
  exact⟨rfl,rfl⟩
set_option maxHeartbeats 4000000 in
set_option maxRecDepth 100000 in
theorem wO{hs:List Chunk}:aA Tryz.prog 11 [] hs (fun v' hs'=>v'= .bool true/\hs=hs'):=by
 refine aA.enter 39 Tryz.func11 rfl Tryz.ntmps11 rfl ?_
 refine TT.seq (.region (.U hT 1 rfl (.nil (.seq (.seq (.region (.U hT 1 rfl (.nil (.seq (.seq (.region (.U hT 1 rfl (.call Tryz.call41 rfl rfl rfl rfl (Bf) ?_)))))))))))))
 rintro nZ jF ⟨rfl,rfl⟩
 refine OT.U hT 5 rfl (.nil (.seq (.seq (.region (.build (cs:=aq Br) hT rfl Tryz.zeroValue83 rfl rfl kr rfl (.call Tryz.call40 rfl rfl rfl rfl (D3 (s:=Br) (by decide)) ?_))))))
 rintro CP uw ⟨bv,rfl,rfl⟩
 refine OT.call Tryz.call41 rfl rfl rfl rfl (Bg (s:=Br)) ?_
 rintro iT eY ⟨rfl,rfl⟩
 refine OT.U hT 5 rfl (.nil (.seq (.seq (.region (.build (cs:=aJ (List.replicate 96 (.slice none 0 0))) hT rfl Tryz.zeroValue30 rfl rfl kr rfl (.box rfl rfl rfl (fun HH=> ?_)))))))
 have pK:eL 30 HH tu [(HH,blk (aJ (List.replicate 96 (.slice none 0 0))) 30 (0,0))]:=eL.one (eu.zero [[]])
 show OT _ _ _ _ _ ([(HH,blk (aJ (List.replicate 96 (.slice none 0 0))) 30 (0,0))]::([(bv,blk (.nilIface::aq Br) 134 (0,0))]::hs))
 generalize([(HH,blk (aJ (List.replicate 96 (.slice none 0 0))) 30 (0,0))]:Chunk)=HB at pK⊢
 refine OT.bO Tryz.underlying26 rfl rfl rfl rfl (.call Tryz.call42 rfl rfl rfl rfl (aA.pull pl (qm (nm:=⟨#[115]⟩) oV pK (J1 (by decide)) (by rw[show tu 0=dO 256 from rfl,dS];decide) (show di (tu 0)=((0,[]),0)from y6) (by decide))) ?_)
 rintro xb uq (⟨H',e,rfl,rfl,⟨PV,_,rfl⟩|⟨_,i,s,h,_⟩|⟨_,_,h⟩⟩|⟨_,_,i,s,_,_,_,h,_⟩)
 .
  refine OT.U hT 5 rfl (.nil (.seq (.seq (.region (.call Tryz.call38 rfl rfl rfl rfl (lU) ?_)))))
  rintro CI Bz ⟨rfl,rfl⟩
  refine OT.U hT 1 rfl (.U hT 4 rfl (.U hT 4 rfl (.U hT 4 rfl (.nil (.seq (.ret (.of (rs:=[.tmp 0]) [_] hs rfl (.tmp rfl .nil) sl ?_)))))))
  try dsimp only[one]
  exact⟨rfl,rfl⟩
 .
  exact absurd (show(-1:Int)=(i:Nat)from h) (by omega)
 .
  exact h.elim
 .
  exact absurd (show(-1:Int)=(i:Nat)from h) (by omega)
end Go.Proofs.YtihpkgmfkbkffaaGreat.Sx
end
section
namespace Go.Proofs.YtihpkgmfkbkffaaGreat.Sx
open Go Go.Sx Go.Pl
variable[au]
set_option maxHeartbeats 8000000 in
set_option maxRecDepth 100000 in
theorem tZ{v1 v2:Value}{l1:List Int}{l2:List UInt8}{hs:List Chunk}(G5:Row Go.Sx.cM 1 hs v1 l1)(kg:Row Go.Sx.aB 1 hs v2 l2)(nR:l1.length<=9223372036854775807)(hl2:l2.length<=9223372036854775807):aA Tryz.prog 10 [v1,v2] hs (fun v' hs'=>v'= .bool true/\hs=hs'):=by
 refine aA.enter 122 Tryz.func10 rfl Tryz.ntmps10 rfl ?_
 obtain⟨a0,c0,hv⟩:=G5.len
 subst hv
 obtain⟨a1,c1,hv⟩:=kg.len
 subst hv
 refine TT.seq (.region (.U hT 1 rfl (.nil (.seq (.seq (.region (.call Tryz.call38 rfl rfl rfl rfl (lU) ?_)))))))
 rintro iT eY ⟨rfl,rfl⟩
 refine OT.U hT 1 rfl (.nil (.seq (.seq (.seq (.region (.U hT 2 rfl (.nil (.seq (.cond_false rfl (.skip (.seq (.seq (.region (.build (cs:=aJ (List.replicate 96 (.slice none 0 0))) hT rfl Tryz.zeroValue30 rfl rfl kr rfl (.box rfl rfl rfl (fun fD=> ?_))))))))))))))))
 refine OT.U hT 1 rfl (.nil (.seq (.seq (.seq (.region (.U hT 1 rfl (.nil (.seq (.block (.loop (ι:=Nat×(List Value)×Chunk×ah) (fun j=>(j.1)<=96/\eu [(j.2.2.1)] (j.2.1) (j.2.2.2)/\∀k:Nat,k<(j.1)->∃a n c,(j.2.1)[k]? =some (.slice (some a) n c)) (fun j=>96-(j.1)) (fun j=>[(0,.slice a0 l1.length c0),(1,.slice a1 l2.length c1),(6,.pointer (some ⟨fD,0,none⟩)),(7,.int .i64 ((j.1):Nat))]) (fun j=>[(fD,blk (aJ (j.2.1)) 30 (0,0))]::(j.2.2.1)::hs) (0,List.replicate 96 (.slice none 0 0),[],tu) ?_ (aa.cons rfl (aa.cons rfl (aa.cons rfl (aa.cons rfl (aa.nil _))))) sl ?_))))))))))
 . dsimp only
   exact⟨Nat.zero_le _,eu.zero [[]],fun k h=>by omega⟩
 rintro⟨i,vs,G,Q⟩ hI
 dsimp only at hI
 obtain⟨hi,hS,hF⟩:=hI
 show TT _ _ _ [(0,.slice a0 l1.length c0),(1,.slice a1 l2.length c1),(6,.pointer (some ⟨fD,0,none⟩)),(7,.int .i64 (i:Nat))] ([(fD,blk (aJ vs) 30 (0,0))]::G::hs)
 refine TT.seq (.seq (.region (.U hT 2 rfl (.nil (.seq (.cond rfl (fun jy=> ?_) (fun jy=> ?_)))))))
 .
  have jy:=of_decide_eq_true jy
  refine TT.skip (.seq (.seq (.block (.seq (.region (.U hT 3 rfl (.nil (.seq (.cut (ι:=UInt8) (fun j=>True) (fun j=>[(0,.slice a0 l1.length c0),(1,.slice a1 l2.length c1),(6,.pointer (some ⟨fD,0,none⟩)),(7,.int .i64 (i:Nat)),(8,.int .u8 ((j).toNat:Int))]) (fun j=>[(fD,blk (aJ vs) 30 (0,0))]::G::hs) ?_ ?_)))))))))
  .
   refine TT.seq (.region (.U hT 4 rfl (.nil (.seq (.cond rfl (fun lW=> ?_) (fun lW=> ?_))))))
   .
    have lW:=of_decide_eq_true lW
    obtain⟨x,hx⟩:=nth (l:=l2) (i:=i) (by omega)
    refine TT.region (.U hT 2 rfl (.index hT rfl rfl rfl rfl (Row.mono kg fun b o hb=>Has.kf sl hb) (by omega) (by rw[Int.toNat_natCast];exact hx) rfl (fun OJ Ae=> ?_)))
    refine OT.load rfl rfl (Ae.bL hT rfl rfl) rfl (.U hT 1 rfl (.nil (.cut (x) ?_ (aa.cons rfl (aa.cons rfl (aa.cons rfl (aa.cons rfl (aa.cons rfl (aa.nil _)))))) sl)))
    . trivial
   .
    have lW:=of_decide_eq_false lW
    refine TT.skip (.cut (UInt8.ofNat i) ?_ (aa.cons rfl (aa.cons rfl (aa.cons rfl (aa.cons rfl (aa.aM rfl (by(try dsimp only);exact(int_eq (Jx i))) (aa.nil _)))))) sl)
    . trivial
  .
   rintro u _
   show TT _ _ _ [(0,.slice a0 l1.length c0),(1,.slice a1 l2.length c1),(6,.pointer (some ⟨fD,0,none⟩)),(7,.int .i64 (i:Nat)),(8,.int .u8 (u.toNat:Int))] ([(fD,blk (aJ vs) 30 (0,0))]::G::hs)
   refine TT.draw (hs) mixed (.takes (fuel:=4) hT [0,1,2,3,4,7,8] kr kr rfl (.op (fuel:=3) 5 kr rfl sl (.eI 39 rfl (v:= .int .u8 ((UInt8.ofNat i).toNat:Int)) (int_eq (Jx i)) ?_)))
   refine OT.buildSlice (enc:=Go.Sx.aB) (xs:=[u,UInt8.ofNat i]) (gQ:=[.tmp 37,.tmp 39]) eW rfl rfl rfl rfl rfl (by simp[Value.cells]) (fun _ _=>rfl) rfl (by decide) rfl (fun vA zI ey=> ?_)
   refine OT.nil (.any (.op (fuel:=2) 6 kr rfl sl (.call Tryz.call39 rfl rfl rfl rfl (cR ro (by simp)) ?_)))
   rintro CK BC ⟨K,rfl,qA⟩
   obtain⟨bK,oK,cK,_,_,Wj,_⟩:=qA.over (by rw[aQ (by simp)];decide)
   subst Wj
   refine OT.nil (.any (.aT (fuel:=1) hT 9 rfl kr kr kr rfl rfl rfl rfl (by omega) (by omega) rfl (.op (fuel:=0) 10 kr rfl sl (.store hT rfl rfl rfl rfl pl rfl (by rw[Fc hS.len];show _+1<=97;omega) rfl (.inl (Nat.le_refl _)) (Fb hS.len (k:=i) (by omega) _ (by omega)) ?_))))
   refine OT.nil (.any (.done kr sl (.blk (.seq (.region (.U hT 3 rfl (.nil (.loop (i+1,vs.set i (.slice (some ⟨bK,oK,none⟩) (iJ [u,UInt8.ofNat i]).length cK),G++K,ef Q (i:Nat) (iJ [u,UInt8.ofNat i])) ?_ ?_ (aa.cons rfl (aa.cons rfl (aa.cons rfl (aa.aM rfl (by(try dsimp only);exact(int_eq (by rw[wrap_i64 (by omega) (by omega)];omega))) (aa.nil _))))) sl))))))))
   . dsimp only
     exact⟨by omega,hS.grow (by omega) qA (aQ (by simp)),fun k hk=>(Nat.lt_or_eq_of_le (Nat.le_of_lt_succ hk)).elim (fun h=>by rw[List.getElem?_set_ne (by omega)];exact hF k h) fun h=>⟨_,_,_,by subst h;exact List.getElem?_set_self (by rw[hS.len];omega)⟩⟩
   . dsimp only
     omega
 .
  have jy:=of_decide_eq_false jy
  obtain rfl:i=96:=by omega
  refine TT.exit (.seq (.loop (.here (.seq (.seq (.region (.alloc Tryz.zeroValue83 rfl rfl (fun gR=> ?_))))))))
  refine OT.nil (.seq (.seq (.seq (.region (.U hT 1 rfl (.nil (.seq (.block (.loop (ι:=Nat×(List Int)) (fun j=>(j.1)<=31/\(j.2).length=32/\(∀a∈(j.2),a=0\/(32<=a/\a<96))) (fun j=>31-(j.1)) (fun j=>[(0,.slice a0 l1.length c0),(1,.slice a1 l2.length c1),(6,.pointer (some ⟨fD,0,none⟩)),(9,.pointer (some ⟨gR,0,none⟩)),(10,.int .i64 ((j.1):Nat))]) (fun j=>[(gR,blk (aq (⟨⟨#[]⟩,0,false,(j.2)⟩:az)) 83 (0,0))]::[(fD,blk (aJ vs) 30 (0,0))]::G::hs) (0,List.replicate 32 0) ?_ (aa.cons rfl (aa.cons rfl (aa.cons rfl (aa.cons rfl (aa.cons rfl (aa.nil _)))))) sl ?_)))))))))
  . dsimp only
    exact⟨Nat.zero_le _,List.length_replicate,fun a h=> .inl (List.eq_of_mem_replicate h)⟩
  rintro⟨i,mp⟩ hI
  dsimp only at hI
  obtain⟨hi,hml,I_⟩:=hI
  show TT _ _ _ [(0,.slice a0 l1.length c0),(1,.slice a1 l2.length c1),(6,.pointer (some ⟨fD,0,none⟩)),(9,.pointer (some ⟨gR,0,none⟩)),(10,.int .i64 (i:Nat))] ([(gR,blk (aq (⟨⟨#[]⟩,0,false,mp⟩:az)) 83 (0,0))]::[(fD,blk (aJ vs) 30 (0,0))]::G::hs)
  refine TT.seq (.seq (.region (.U hT 5 rfl (.split 49 rfl (fun Rp=> ?_) (fun Rp=> ?_)))))
  .
   have Rp:i<l1.length:=by have:=of_decide_eq_true Rp;omega
   refine OT.U hT 3 rfl (.nil (.seq (.cond rfl (fun Em=> ?_) (fun Em=> ?_))))
   .
    have Em:=of_decide_eq_true Em
    obtain⟨x,hx⟩:=nth (l:=l1) (i:=i) (by omega)
    have hm:=yA (x:=x) (m:=63) (by decide)
    refine TT.skip (.seq (.seq (.block (.seq (.region (.U hT 2 rfl (.index hT rfl rfl rfl rfl (Row.mono G5 fun b o hb=>Has.kf sl hb) (by omega) (by rw[Int.toNat_natCast];exact hx) rfl (fun PB At=> ?_))))))))
    refine OT.load rfl rfl (At.bL hT rfl rfl) rfl (.U hT 2 rfl (.nil (.seq (.cond rfl (fun Jb=> ?_) (fun Jb=> ?_)))))
    .
     refine TT.region (.U hT 4 rfl (.index hT rfl rfl rfl rfl (Row.mono G5 fun b o hb=>Has.kf sl hb) (by omega) (by rw[Int.toNat_natCast];exact hx) rfl (fun UR Mh=> ?_)))
     refine OT.load rfl rfl (Mh.bL hT rfl rfl) rfl (.U hT 1 rfl (.eI 67 rfl (v:= .int .i64 ((rQ x 63:Nat):Int)) (int_eq (IF (by decide))) (.U hT 1 rfl (.eI 68 rfl (v:= .int .i64 ((32+rQ x 63:Nat):Int)) (int_eq (by rw[wrap_i64 (by omega) (by omega)];omega)) (.eI 62 rfl (v:= .int .i64 ((1+i:Nat):Int)) (int_eq (by rw[wrap_i64 (by omega) (by omega)];omega)) (.U hT 1 rfl (.aT hT rfl rfl rfl rfl (by omega) (by omega) rfl (.store hT rfl rfl rfl rfl pl rfl (by rw[dJ];show _+1<=mp.length+3;omega) rfl (.inl (Nat.le_refl _)) (x6 (s:=(⟨⟨#[]⟩,0,false,mp⟩:az)) (no:=1+i) (by show _<mp.length;omega)) ?_))))))))
     refine OT.nil (.blk (.seq (.region (.U hT 3 rfl (.nil (.loop (i+1,mp.set (1+i) ((32+rQ x 63:Nat):Int)) ?_ ?_ (aa.cons rfl (aa.cons rfl (aa.cons rfl (aa.cons rfl (aa.aM rfl (by(try dsimp only);exact(int_eq (by rw[wrap_i64 (by omega) (by omega)];omega))) (aa.nil _)))))) sl))))))
     . dsimp only
       exact⟨by omega,by rw[List.length_set];exact hml,fun a ha=>(List.mem_or_eq_of_mem_set ha).elim (I_ a) fun h=> .inr (by rw[h];omega)⟩
     . dsimp only
       omega
    .
     refine TT.skip (.blk (.seq (.region (.U hT 3 rfl (.nil (.loop (i+1,mp) ?_ ?_ (aa.cons rfl (aa.cons rfl (aa.cons rfl (aa.cons rfl (aa.aM rfl (by(try dsimp only);exact(int_eq (by rw[wrap_i64 (by omega) (by omega)];omega))) (aa.nil _)))))) sl))))))
     . dsimp only
       exact⟨by omega,hml,I_⟩
     . dsimp only
       omega
   .
    have Em:=of_decide_eq_false Em
    refine TT.exit (.seq (.loop (.here (.seq (.seq (.region (.U hT 1 rfl (.bO Tryz.underlying26 rfl rfl rfl rfl (.load rfl rfl (Ld.af hT rfl hz (by rw[dJ];show mp.length+3=35;omega)) rfl ?_)))))))))
    refine OT.call Tryz.call40 rfl rfl rfl rfl (oU (s:=(⟨⟨#[]⟩,0,false,mp⟩:az)) rfl (by rw[dJ];show mp.length+3=35;omega)) ?_
    rintro Lb E6 ⟨bv,rfl,rfl⟩
    refine OT.U hT 1 rfl (.nil (.seq (.seq (.seq (.region (.U hT 1 rfl (.nil (.seq (.block ?_)))))))))
    have fG:(aq (⟨⟨#[]⟩,0,false,mp⟩:az)).length=35:=by rw[dJ];show mp.length+3=35;omega
    refine TT.loop (ι:=Nat) (fun j=>(j)<=42) (fun j=>42-(j)) (fun j=>[(6,.pointer (some ⟨fD,0,none⟩)),(9,.pointer (some ⟨gR,0,none⟩)),(11,.pointer (some ⟨bv,0,none⟩)),(12,.int .i64 (((j):Int)-1))]) (fun j=>([(bv,blk (.iface 26 (.pointer (some ⟨fD,0,none⟩))::aq (⟨⟨#[]⟩,0,false,mp⟩:az)) 134 (0,0))]++([(fD,blk (aJ vs) 30 (0,0))]++G))::[(gR,blk (aq (⟨⟨#[]⟩,0,false,mp⟩:az)) 83 (0,0))]::hs) (0) ?_ (aa.cons rfl (aa.cons rfl (aa.cons rfl (aa.cons rfl (aa.nil _))))) sl ?_
    . exact Nat.zero_le _
    rintro n hn
    show TT _ _ _ [(6,.pointer (some ⟨fD,0,none⟩)),(9,.pointer (some ⟨gR,0,none⟩)),(11,.pointer (some ⟨bv,0,none⟩)),(12,.int .i64 ((n:Int)-1))] (([(bv,blk (.iface 26 (.pointer (some ⟨fD,0,none⟩))::aq (⟨⟨#[]⟩,0,false,mp⟩:az)) 134 (0,0))]++([(fD,blk (aJ vs) 30 (0,0))]++G))::[(gR,blk (aq (⟨⟨#[]⟩,0,false,mp⟩:az)) 83 (0,0))]::hs)
    refine TT.seq (.seq (.region (.U hT 2 rfl (.nil (.seq (.cond rfl (fun Km=> ?_) (fun Km=> ?_)))))))
    .
     have Km:=of_decide_eq_true Km
     refine TT.skip (.seq (.seq (.block (.seq (.region (.U hT 2 rfl (.call Tryz.call41 rfl rfl rfl rfl (oE (I:=fun H=>H=[(fD,blk (aJ vs) 30 (0,0))]++G) (fun _ h=>h▸eL.one hS) rfl fG I_ (no:=(n:Int)-1) (by omega) (by omega)) ?_)))))))
     rintro N5 JT ⟨_,K3,w3,rfl,rfl,kn,rfl⟩
     refine OT.U hT 5 rfl (.nil (.seq (.seq (.seq (.region (.U hT 3 rfl (.split 87 rfl (fun BV=> ?_) (fun BV=> ?_))))))))
     .
      have BV:(n:Int)-1<1:=of_decide_eq_true BV
      have hv:(cH (⟨⟨#[]⟩,0,false,mp⟩:az) (aK Q) ((n:Int)-1))=(3,[]):=if_pos (.inl BV)
      rw[hv]at kn⊢
      dsimp only at kn⊢
      obtain⟨a3,c3,Hj⟩:=(kn.row (hs:=[])).len
      subst Hj
      refine OT.U hT 3 rfl (.nil (.seq (.cond_true rfl (.seq (.seq (.region (.U hT 3 rfl (.U hT 4 rfl (.nil (.seq (.cond_false rfl (.skip (.seq (.exit (.seq (.here (.seq (.region (.U hT 3 rfl (.nil (.loop (n+1) ?_ ?_ (aa.cons rfl (aa.cons rfl (aa.cons rfl (aa.aM rfl (by(try dsimp only);exact(int_eq (by rw[wrap_i64 (by omega) (by omega)];omega))) (aa.nil _))))) sl)))))))))))))))))))))
      . omega
      . omega
     .
      have BV:¬(n:Int)-1<1:=of_decide_eq_false BV
      refine OT.U hT 3 rfl (.nil (.seq (.cond rfl (fun Et=> ?_) (fun Et=> ?_))))
      .
       have Et:(n:Int)-1>31:=of_decide_eq_true Et
       have hv:(cH (⟨⟨#[]⟩,0,false,mp⟩:az) (aK Q) ((n:Int)-1))=(3,[]):=if_pos (.inr (by omega))
       rw[hv]at kn⊢
       dsimp only at kn⊢
       obtain⟨a3,c3,Hj⟩:=(kn.row (hs:=[])).len
       subst Hj
       refine TT.seq (.seq (.region (.U hT 3 rfl (.U hT 4 rfl (.nil (.seq (.cond_false rfl (.skip (.seq (.exit (.seq (.here (.seq (.region (.U hT 3 rfl (.nil (.loop (n+1) ?_ ?_ (aa.cons rfl (aa.cons rfl (aa.cons rfl (aa.aM rfl (by(try dsimp only);exact(int_eq (by rw[wrap_i64 (by omega) (by omega)];omega))) (aa.nil _))))) sl)))))))))))))))))
       . omega
       . omega
      .
       have Et:=of_decide_eq_false Et
       obtain⟨m,hm⟩:∃m:Nat,(n:Int)-1=m:=⟨n-1,by omega⟩
       obtain⟨x,hx⟩:=nth (l:=mp) (i:=m) (by omega)
       have hxs:=I_ x (List.mem_of_getElem? hx)
       rw[hm]at kn⊢
       refine TT.weaken (aa.refl _) (bp.split (.pull .head (bp.split (bp.refl _)))) (.skip (.seq (.seq (.region (.U hT 2 rfl (.nil (.seq (.seq (.seq (.region (.U hT 2 rfl (.aT hT rfl rfl rfl rfl (by omega) (by omega) rfl (.load rfl rfl (Ld.one hT rfl hz (ot (s:=(⟨⟨#[]⟩,0,false,mp⟩:az)) hx)) rfl ?_)))))))))))))
       refine OT.U hT 1 rfl (.nil (.seq (.cond rfl (fun m6=> ?_) (fun m6=> ?_))))
       .
        have m6:=bne_iff_ne.1 m6
        obtain⟨q,rfl⟩:∃q:Nat,x=q:=⟨x.toNat,by omega⟩
        have hv:cH (⟨⟨#[]⟩,0,false,mp⟩:az) (aK Q) ((m:Nat):Int)=(0,Q (q:Nat)):=by
         have hat:az.at (⟨⟨#[]⟩,0,false,mp⟩:az) ((m:Nat):Int)=(q:Nat):=az.mj hx
         unfold cH lz;rw[if_neg (by omega),hat,if_pos m6,J1 (by unfold aD;omega)]
        obtain⟨av,nv,cv,hvs⟩:=hF q (by omega)
        obtain⟨v',BT,Hl⟩:=hS.at_ q (by omega)
        rw[hvs]at BT
        cases BT
        obtain⟨_,_,_,_,hrow,_⟩:=Hl.resolve_left (fun h=>by have:=h.1;cases this)
        rw[hv]at kn⊢
        dsimp only at kn⊢
        refine TT.region (.U hT 2 rfl (.aT hT rfl rfl rfl rfl (by omega) (by omega) rfl (.load rfl rfl (Ld.one hT rfl hz (ot (s:=(⟨⟨#[]⟩,0,false,mp⟩:az)) hx)) rfl ?_)))
        refine OT.U hT 1 rfl (.nil (.seq (.seq (.draw (([(fD,blk (aJ vs) 30 (0,0))]::G::K3::hs)) mixed (.takes (fuel:=11) hT [0,1,2] kr kr rfl (.takes (fuel:=6) hT [3,5,6,7,8] kr kr rfl (.conv (fuel:=5) 4 rfl kr kr kr hT rfl rfl rfl rfl rfl (Row.mono (kn.row (hs:=hs)) fun b o hb=>Has.kf sl hb) rfl (.aT (fuel:=4) hT 9 rfl kr kr kr rfl rfl rfl rfl (by omega) (by omega) rfl (.take (fuel:=3) hT 10 rfl rfl kr kr kr rfl (.load rfl (Ld.slc hT rfl hz (ug hS.len hvs (by omega)))) rfl ?_)))))))))
        refine AT.conv (fuel:=2) 11 rfl kr kr kr hT rfl rfl rfl rfl rfl (hrow.mono fun _ _ h=> .there (rC h)) rfl (.takes (fuel:=0) hT [12,13] kr kr rfl (.done kr sl (.seq (.cond rfl (fun rM=> ?_) (fun rM=> ?_)))))
        .
         exact absurd rM (by simp)
        .
         refine TT.skip (.blk (.seq (.region (.U hT 3 rfl (.nil (.loop (n+1) ?_ ?_ (aa.cons rfl (aa.cons rfl (aa.cons rfl (aa.aM rfl (by(try dsimp only);exact(int_eq (by rw[wrap_i64 (by omega) (by omega)];omega))) (aa.nil _))))) sl))))))
         . omega
         . omega
       .
        have m6:=bne_eq_false_iff_eq.1 m6
        obtain⟨q,Rq⟩:∃q:Nat,q=m:=⟨m,rfl⟩
        subst Rq
        have hv:cH (⟨⟨#[]⟩,0,false,mp⟩:az) (aK Q) ((q:Nat):Int)=(0,Q (q:Nat)):=by
         have hat:az.at (⟨⟨#[]⟩,0,false,mp⟩:az) ((q:Nat):Int)=x:=az.mj hx
         unfold cH lz;rw[if_neg (by omega),hat,if_neg (fun h=>h m6),J1 (by unfold aD;omega)]
        obtain⟨av,nv,cv,hvs⟩:=hF q (by omega)
        obtain⟨v',BT,Hl⟩:=hS.at_ q (by omega)
        rw[hvs]at BT
        cases BT
        obtain⟨_,_,_,_,hrow,_⟩:=Hl.resolve_left (fun h=>by have:=h.1;cases this)
        rw[hv]at kn⊢
        dsimp only at kn⊢
        refine TT.skip (.seq (.seq (.draw (([(fD,blk (aJ vs) 30 (0,0))]::G::K3::hs)) mixed (.takes (fuel:=11) hT [0,1,2] kr kr rfl (.takes (fuel:=6) hT [3,5,6,7,8] kr kr rfl (.conv (fuel:=5) 4 rfl kr kr kr hT rfl rfl rfl rfl rfl (Row.mono (kn.row (hs:=hs)) fun b o hb=>Has.kf sl hb) rfl (.aT (fuel:=4) hT 9 rfl kr kr kr rfl rfl rfl rfl (by omega) (by omega) rfl (.take (fuel:=3) hT 10 rfl rfl kr kr kr rfl (.load rfl (Ld.slc hT rfl hz (ug hS.len hvs (by omega)))) rfl ?_))))))))
        refine AT.conv (fuel:=2) 11 rfl kr kr kr hT rfl rfl rfl rfl rfl (hrow.mono fun _ _ h=> .there (rC h)) rfl (.takes (fuel:=0) hT [12,13] kr kr rfl (.done kr sl (.seq (.cond rfl (fun rM=> ?_) (fun rM=> ?_)))))
        .
         exact absurd rM (by simp)
        .
         refine TT.skip (.blk (.seq (.region (.U hT 3 rfl (.nil (.loop (n+1) ?_ ?_ (aa.cons rfl (aa.cons rfl (aa.cons rfl (aa.aM rfl (by(try dsimp only);exact(int_eq (by rw[wrap_i64 (by omega) (by omega)];omega))) (aa.nil _))))) sl))))))
         . omega
         . omega
    .
     refine TT.exit (.seq (.loop (.here (.seq (.seq (.region (.U hT 1 rfl (.nil (.seq (.ret (.of (rs:=[.tmp 4]) [_] hs rfl (.tmp rfl .nil) sl ?_)))))))))))
     try dsimp only[one]
     exact⟨rfl,rfl⟩
  .
   refine OT.U hT 3 rfl (.nil (.seq (.cond_false rfl (.exit (.seq (.loop (.here (.seq (.seq (.region (.U hT 1 rfl (.bO Tryz.underlying26 rfl rfl rfl rfl (.load rfl rfl (Ld.af hT rfl hz (by rw[dJ];show mp.length+3=35;omega)) rfl ?_)))))))))))))
   refine OT.call Tryz.call40 rfl rfl rfl rfl (oU (s:=(⟨⟨#[]⟩,0,false,mp⟩:az)) rfl (by rw[dJ];show mp.length+3=35;omega)) ?_
   rintro Lb E6 ⟨bv,rfl,rfl⟩
   refine OT.U hT 1 rfl (.nil (.seq (.seq (.seq (.region (.U hT 1 rfl (.nil (.seq (.block ?_)))))))))
   have fG:(aq (⟨⟨#[]⟩,0,false,mp⟩:az)).length=35:=by rw[dJ];show mp.length+3=35;omega
   refine TT.loop (ι:=Nat) (fun j=>(j)<=42) (fun j=>42-(j)) (fun j=>[(6,.pointer (some ⟨fD,0,none⟩)),(9,.pointer (some ⟨gR,0,none⟩)),(11,.pointer (some ⟨bv,0,none⟩)),(12,.int .i64 (((j):Int)-1))]) (fun j=>([(bv,blk (.iface 26 (.pointer (some ⟨fD,0,none⟩))::aq (⟨⟨#[]⟩,0,false,mp⟩:az)) 134 (0,0))]++([(fD,blk (aJ vs) 30 (0,0))]++G))::[(gR,blk (aq (⟨⟨#[]⟩,0,false,mp⟩:az)) 83 (0,0))]::hs) (0) ?_ (aa.cons rfl (aa.cons rfl (aa.cons rfl (aa.cons rfl (aa.nil _))))) sl ?_
   . exact Nat.zero_le _
   rintro n hn
   show TT _ _ _ [(6,.pointer (some ⟨fD,0,none⟩)),(9,.pointer (some ⟨gR,0,none⟩)),(11,.pointer (some ⟨bv,0,none⟩)),(12,.int .i64 ((n:Int)-1))] (([(bv,blk (.iface 26 (.pointer (some ⟨fD,0,none⟩))::aq (⟨⟨#[]⟩,0,false,mp⟩:az)) 134 (0,0))]++([(fD,blk (aJ vs) 30 (0,0))]++G))::[(gR,blk (aq (⟨⟨#[]⟩,0,false,mp⟩:az)) 83 (0,0))]::hs)
   refine TT.seq (.seq (.region (.U hT 2 rfl (.nil (.seq (.cond rfl (fun Km=> ?_) (fun Km=> ?_)))))))
   .
    have Km:=of_decide_eq_true Km
    refine TT.skip (.seq (.seq (.block (.seq (.region (.U hT 2 rfl (.call Tryz.call41 rfl rfl rfl rfl (oE (I:=fun H=>H=[(fD,blk (aJ vs) 30 (0,0))]++G) (fun _ h=>h▸eL.one hS) rfl fG I_ (no:=(n:Int)-1) (by omega) (by omega)) ?_)))))))
    rintro N5 JT ⟨_,K3,w3,rfl,rfl,kn,rfl⟩
    refine OT.U hT 5 rfl (.nil (.seq (.seq (.seq (.region (.U hT 3 rfl (.split 87 rfl (fun BV=> ?_) (fun BV=> ?_))))))))
    .
     have BV:(n:Int)-1<1:=of_decide_eq_true BV
     have hv:(cH (⟨⟨#[]⟩,0,false,mp⟩:az) (aK Q) ((n:Int)-1))=(3,[]):=if_pos (.inl BV)
     rw[hv]at kn⊢
     dsimp only at kn⊢
     obtain⟨a3,c3,Hj⟩:=(kn.row (hs:=[])).len
     subst Hj
     refine OT.U hT 3 rfl (.nil (.seq (.cond_true rfl (.seq (.seq (.region (.U hT 3 rfl (.U hT 4 rfl (.nil (.seq (.cond_false rfl (.skip (.seq (.exit (.seq (.here (.seq (.region (.U hT 3 rfl (.nil (.loop (n+1) ?_ ?_ (aa.cons rfl (aa.cons rfl (aa.cons rfl (aa.aM rfl (by(try dsimp only);exact(int_eq (by rw[wrap_i64 (by omega) (by omega)];omega))) (aa.nil _))))) sl)))))))))))))))))))))
     . omega
     . omega
    .
     have BV:¬(n:Int)-1<1:=of_decide_eq_false BV
     refine OT.U hT 3 rfl (.nil (.seq (.cond rfl (fun Et=> ?_) (fun Et=> ?_))))
     .
      have Et:(n:Int)-1>31:=of_decide_eq_true Et
      have hv:(cH (⟨⟨#[]⟩,0,false,mp⟩:az) (aK Q) ((n:Int)-1))=(3,[]):=if_pos (.inr (by omega))
      rw[hv]at kn⊢
      dsimp only at kn⊢
      obtain⟨a3,c3,Hj⟩:=(kn.row (hs:=[])).len
      subst Hj
      refine TT.seq (.seq (.region (.U hT 3 rfl (.U hT 4 rfl (.nil (.seq (.cond_false rfl (.skip (.seq (.exit (.seq (.here (.seq (.region (.U hT 3 rfl (.nil (.loop (n+1) ?_ ?_ (aa.cons rfl (aa.cons rfl (aa.cons rfl (aa.aM rfl (by(try dsimp only);exact(int_eq (by rw[wrap_i64 (by omega) (by omega)];omega))) (aa.nil _))))) sl)))))))))))))))))
      . omega
      . omega
     .
      have Et:=of_decide_eq_false Et
      obtain⟨m,hm⟩:∃m:Nat,(n:Int)-1=m:=⟨n-1,by omega⟩
      obtain⟨x,hx⟩:=nth (l:=mp) (i:=m) (by omega)
      have hxs:=I_ x (List.mem_of_getElem? hx)
      rw[hm]at kn⊢
      refine TT.weaken (aa.refl _) (bp.split (.pull .head (bp.split (bp.refl _)))) (.skip (.seq (.seq (.region (.U hT 2 rfl (.nil (.seq (.seq (.seq (.region (.U hT 2 rfl (.aT hT rfl rfl rfl rfl (by omega) (by omega) rfl (.load rfl rfl (Ld.one hT rfl hz (ot (s:=(⟨⟨#[]⟩,0,false,mp⟩:az)) hx)) rfl ?_)))))))))))))
      refine OT.U hT 1 rfl (.nil (.seq (.cond rfl (fun m6=> ?_) (fun m6=> ?_))))
      .
       have m6:=bne_iff_ne.1 m6
       obtain⟨q,rfl⟩:∃q:Nat,x=q:=⟨x.toNat,by omega⟩
       have hv:cH (⟨⟨#[]⟩,0,false,mp⟩:az) (aK Q) ((m:Nat):Int)=(0,Q (q:Nat)):=by
        have hat:az.at (⟨⟨#[]⟩,0,false,mp⟩:az) ((m:Nat):Int)=(q:Nat):=az.mj hx
        unfold cH lz;rw[if_neg (by omega),hat,if_pos m6,J1 (by unfold aD;omega)]
       obtain⟨av,nv,cv,hvs⟩:=hF q (by omega)
       obtain⟨v',BT,Hl⟩:=hS.at_ q (by omega)
       rw[hvs]at BT
       cases BT
       obtain⟨_,_,_,_,hrow,_⟩:=Hl.resolve_left (fun h=>by have:=h.1;cases this)
       rw[hv]at kn⊢
       dsimp only at kn⊢
       refine TT.region (.U hT 2 rfl (.aT hT rfl rfl rfl rfl (by omega) (by omega) rfl (.load rfl rfl (Ld.one hT rfl hz (ot (s:=(⟨⟨#[]⟩,0,false,mp⟩:az)) hx)) rfl ?_)))
       refine OT.U hT 1 rfl (.nil (.seq (.seq (.draw (([(fD,blk (aJ vs) 30 (0,0))]::G::K3::hs)) mixed (.takes (fuel:=11) hT [0,1,2] kr kr rfl (.takes (fuel:=6) hT [3,5,6,7,8] kr kr rfl (.conv (fuel:=5) 4 rfl kr kr kr hT rfl rfl rfl rfl rfl (Row.mono (kn.row (hs:=hs)) fun b o hb=>Has.kf sl hb) rfl (.aT (fuel:=4) hT 9 rfl kr kr kr rfl rfl rfl rfl (by omega) (by omega) rfl (.take (fuel:=3) hT 10 rfl rfl kr kr kr rfl (.load rfl (Ld.slc hT rfl hz (ug hS.len hvs (by omega)))) rfl ?_)))))))))
       refine AT.conv (fuel:=2) 11 rfl kr kr kr hT rfl rfl rfl rfl rfl (hrow.mono fun _ _ h=> .there (rC h)) rfl (.takes (fuel:=0) hT [12,13] kr kr rfl (.done kr sl (.seq (.cond rfl (fun rM=> ?_) (fun rM=> ?_)))))
       .
        exact absurd rM (by simp)
       .
        refine TT.skip (.blk (.seq (.region (.U hT 3 rfl (.nil (.loop (n+1) ?_ ?_ (aa.cons rfl (aa.cons rfl (aa.cons rfl (aa.aM rfl (by(try dsimp only);exact(int_eq (by rw[wrap_i64 (by omega) (by omega)];omega))) (aa.nil _))))) sl))))))
        . omega
        . omega
      .
       have m6:=bne_eq_false_iff_eq.1 m6
       obtain⟨q,Rq⟩:∃q:Nat,q=m:=⟨m,rfl⟩
       subst Rq
       have hv:cH (⟨⟨#[]⟩,0,false,mp⟩:az) (aK Q) ((q:Nat):Int)=(0,Q (q:Nat)):=by
        have hat:az.at (⟨⟨#[]⟩,0,false,mp⟩:az) ((q:Nat):Int)=x:=az.mj hx
        unfold cH lz;rw[if_neg (by omega),hat,if_neg (fun h=>h m6),J1 (by unfold aD;omega)]
       obtain⟨av,nv,cv,hvs⟩:=hF q (by omega)
       obtain⟨v',BT,Hl⟩:=hS.at_ q (by omega)
       rw[hvs]at BT
       cases BT
       obtain⟨_,_,_,_,hrow,_⟩:=Hl.resolve_left (fun h=>by have:=h.1;cases this)
       rw[hv]at kn⊢
       dsimp only at kn⊢
       refine TT.skip (.seq (.seq (.draw (([(fD,blk (aJ vs) 30 (0,0))]::G::K3::hs)) mixed (.takes (fuel:=11) hT [0,1,2] kr kr rfl (.takes (fuel:=6) hT [3,5,6,7,8] kr kr rfl (.conv (fuel:=5) 4 rfl kr kr kr hT rfl rfl rfl rfl rfl (Row.mono (kn.row (hs:=hs)) fun b o hb=>Has.kf sl hb) rfl (.aT (fuel:=4) hT 9 rfl kr kr kr rfl rfl rfl rfl (by omega) (by omega) rfl (.take (fuel:=3) hT 10 rfl rfl kr kr kr rfl (.load rfl (Ld.slc hT rfl hz (ug hS.len hvs (by omega)))) rfl ?_))))))))
       refine AT.conv (fuel:=2) 11 rfl kr kr kr hT rfl rfl rfl rfl rfl (hrow.mono fun _ _ h=> .there (rC h)) rfl (.takes (fuel:=0) hT [12,13] kr kr rfl (.done kr sl (.seq (.cond rfl (fun rM=> ?_) (fun rM=> ?_)))))
       .
        exact absurd rM (by simp)
       .
        refine TT.skip (.blk (.seq (.region (.U hT 3 rfl (.nil (.loop (n+1) ?_ ?_ (aa.cons rfl (aa.cons rfl (aa.cons rfl (aa.aM rfl (by(try dsimp only);exact(int_eq (by rw[wrap_i64 (by omega) (by omega)];omega))) (aa.nil _))))) sl))))))
        . omega
        . omega
   .
    refine TT.exit (.seq (.loop (.here (.seq (.seq (.region (.U hT 1 rfl (.nil (.seq (.ret (.of (rs:=[.tmp 4]) [_] hs rfl (.tmp rfl .nil) sl ?_)))))))))))
    try dsimp only[one]
    exact⟨rfl,rfl⟩
end Go.Proofs.YtihpkgmfkbkffaaGreat.Sx
end
section
namespace Go.Proofs.YtihpkgmfkbkffaaGreat.Sx
open Go Go.Sx Go.Pl
variable[au]
set_option maxHeartbeats 8000000 in
set_option maxRecDepth 100000 in
theorem wP{v:Value}{l:List ByteArray}{bad:Int}(X_: -9223372036854775808<=bad/\bad<=9223372036854775807){s:ByteArray}(hsz:s.size<=9223372036854775807){hs:List Chunk}(hr:Row Go.Sx.ij 1 hs v l)(hl:l.length<=9223372036854775807)(hls:∀x∈l,x.size<=9223372036854775807):aA Tryz.prog 12 [v,.int .i64 bad,.string s] hs (fun v' hs'=>v'= .bool true/\hs=hs'):=by
 refine aA.enter 109 Tryz.func12 rfl Tryz.ntmps12 rfl ?_
 obtain⟨a0,c0,hv⟩:=hr.len
 subst hv
 refine TT.seq (.region (.U hT 1 rfl (.nil (.seq (.seq (.region (.call Tryz.call38 rfl rfl rfl rfl (lU) ?_)))))))
 rintro vz rS ⟨rfl,rfl⟩
 refine OT.U hT 1 rfl (.nil (.seq (.seq (.seq (.region (.U hT 2 rfl (.nil (.seq (.cond_false rfl (.skip (.seq (.cut (ι:=ByteArray) (fun j=>True) (fun j=>[(0,.slice a0 l.length c0),(1,.int .i64 bad),(2,.string (j))]) (fun j=>hs) ?_ ?_))))))))))))
 .
  refine TT.seq (.region (.U hT 3 rfl (.nil (.seq (.cond rfl (fun jx=> ?_) (fun jx=> ?_))))))
  .
   have jx:10<s.size:=by have:=of_decide_eq_true jx;omega
   refine TT.region (.U hT 1 rfl (.mo 0 10 hT rfl rfl rfl rfl rfl (.inl ⟨rfl,rfl⟩) (.inr ⟨_,rfl⟩) (by omega) (by omega) rfl (.U hT 1 rfl (.nil (.cut (s.extract 0 10) ?_ (aa.cons rfl (aa.cons rfl (aa.cons rfl (aa.nil _)))) sl)))))
   . trivial
  .
   refine TT.skip (.cut (s) ?_ (aa.cons rfl (aa.cons rfl (aa.cons rfl (aa.nil _)))) sl)
   . trivial
 .
  rintro nm _
  show TT _ _ _ [(0,.slice a0 l.length c0),(1,.int .i64 bad),(2,.string nm)] (hs)
  refine TT.seq (.region (.alloc Tryz.zeroValue94 rfl rfl (fun fH=> ?_)))
  refine OT.nil (.seq (.seq (.seq (.region (.U hT 1 rfl (.nil (.seq (.block (.loop (ι:=Nat×Int×(List az)×Value×Chunk) (fun j=>(j.1)<=6/\dN (j.2.1) (j.2.2.1)/\lA (j.2.2.1)/\Own aq 35 83 (j.2.2.2.1) (j.2.2.1) (j.2.2.2.2)) (fun j=>6-(j.1)) (fun j=>[(0,.slice a0 l.length c0),(1,.int .i64 bad),(2,.string nm),(8,.pointer (some ⟨fH,0,none⟩)),(9,.int .i64 ((j.1):Nat))]) (fun j=>[(fH,blk [.int .i64 (j.2.1),(j.2.2.2.1)] 94 (0,0))]::(j.2.2.2.2)::hs) (0,0,[],.slice none 0 0,[]) ?_ (aa.cons rfl (aa.cons rfl (aa.cons rfl (aa.cons rfl (aa.cons rfl (aa.nil _)))))) sl ?_)))))))))
  . dsimp only
    exact⟨Nat.zero_le _,oC.1 (by decide),(fun s h=>by cases h),Own.nil⟩
  rintro⟨i,nx,xs,w,K⟩ hI
  dsimp only at hI
  obtain⟨hi,hg,hn,qA⟩:=hI
  show TT _ _ _ [(0,.slice a0 l.length c0),(1,.int .i64 bad),(2,.string nm),(8,.pointer (some ⟨fH,0,none⟩)),(9,.int .i64 (i:Nat))] ([(fH,blk [.int .i64 nx,w] 94 (0,0))]::K::hs)
  refine TT.seq (.seq (.region (.U hT 5 rfl (.split 32 rfl (fun J5=> ?_) (fun J5=> ?_)))))
  .
   have J5:i<l.length:=by have:=of_decide_eq_true J5;omega
   refine OT.U hT 3 rfl (.nil (.seq (.cond rfl (fun Kj=> ?_) (fun Kj=> ?_))))
   .
    have Kj:=of_decide_eq_true Kj
    obtain⟨x,hx⟩:=nth (l:=l) (i:=i) (by omega)
    obtain⟨aw,cw,Es⟩:=(qA.row (hs:=[])).len
    subst Es
    have gW:=hg.iZ
    have hn0:=hg.n0
    refine TT.skip (.seq (.seq (.block (.seq (.region (.U hT 2 rfl (.index hT rfl rfl rfl rfl (Row.mono hr fun b o hb=>Has.kf sl hb) (by omega) (by rw[Int.toNat_natCast];exact hx) rfl (fun OL Ag=> ?_))))))))
    refine OT.load rfl rfl (Ag.bL hT rfl rfl) rfl (.U hT 1 rfl (.nil (.seq (.cut (ι:=ByteArray) (fun j=>True) (fun j=>[(0,.slice a0 l.length c0),(1,.int .i64 bad),(2,.string nm),(8,.pointer (some ⟨fH,0,none⟩)),(9,.int .i64 (i:Nat)),(10,.string (j))]) (fun j=>[(fH,blk [.int .i64 nx,.slice aw xs.length cw] 94 (0,0))]::K::hs) ?_ ?_))))
    .
     refine TT.seq (.region (.U hT 3 rfl (.nil (.seq (.cond rfl (fun GJ=> ?_) (fun GJ=> ?_))))))
     .
      have GJ:10<x.size:=by have:=of_decide_eq_true GJ;omega
      refine TT.region (.U hT 1 rfl (.mo 0 10 hT rfl rfl rfl rfl rfl (.inl ⟨rfl,rfl⟩) (.inr ⟨_,rfl⟩) (by omega) (by omega) rfl (.U hT 1 rfl (.nil (.cut (x.extract 0 10) ?_ (aa.cons rfl (aa.cons rfl (aa.cons rfl (aa.cons rfl (aa.cons rfl (aa.cons rfl (aa.nil _))))))) sl)))))
      . trivial
     .
      refine TT.skip (.cut (x) ?_ (aa.cons rfl (aa.cons rfl (aa.cons rfl (aa.cons rfl (aa.cons rfl (aa.cons rfl (aa.nil _))))))) sl)
      . trivial
    .
     rintro n2 _
     show TT _ _ _ [(0,.slice a0 l.length c0),(1,.int .i64 bad),(2,.string nm),(8,.pointer (some ⟨fH,0,none⟩)),(9,.int .i64 (i:Nat)),(10,.string n2)] ([(fH,blk [.int .i64 nx,.slice aw xs.length cw] 94 (0,0))]::K::hs)
     refine TT.seq (.region (.load rfl rfl (Ld.af hT rfl hz rfl) rfl ?_))
     refine OT.U hT 1 rfl (.call Tryz.call43 rfl rfl rfl rfl (IP (nm:=n2) (Row.mono (qA.row (hs:=hs)) fun b o hb=>Has.kf sl hb) (by omega) (by omega)) ?_)
     rintro zJ xT ⟨w2,HS,rfl,rfl,GL⟩
     obtain⟨a2,c2,Hl⟩:=(GL.row (hs:=[])).len
     subst Hl
     refine OT.U hT 3 rfl (.alloc Tryz.zeroValue94 rfl rfl (fun oa=> ?_))
     refine OT.ag hT rfl rfl rfl rfl pl rfl rfl rfl (.inl (Nat.le_refl _)) ?_
     refine OT.U hT 1 rfl (.nil (.seq (.seq (.region (.U hT 2 rfl (.nil (.seq (.cond rfl (fun CW=> ?_) (fun CW=> ?_)))))))))
     .
      have CW:(k6 nx xs n2).2=0:=beq_iff_eq.1 CW
      obtain⟨nr,hn2⟩:=hn.add hg CW
      refine TT.region (.load rfl rfl (Ld.af hT rfl hz rfl) rfl ?_)
      refine OT.ag hT rfl rfl rfl rfl pl rfl rfl rfl (.inl (Nat.le_refl _)) ?_
      refine OT.nil (.blk (.seq (.region (.U hT 3 rfl (.nil (.loop (i+1,(k6 nx xs n2).1.1,(k6 nx xs n2).1.2,_,HS) ?_ ?_ (aa.cons rfl (aa.cons rfl (aa.cons rfl (aa.cons rfl (aa.aM rfl (by(try dsimp only);exact(int_eq (by rw[wrap_i64 (by omega) (by omega)];omega))) (aa.nil _)))))) sl))))))
      . dsimp only
        exact⟨by omega,nr,hn2,GL⟩
      . dsimp only
        omega
     .
      refine TT.skip (.blk (.seq (.region (.U hT 3 rfl (.nil (.loop (i+1,nx,xs,_,K) ?_ ?_ (aa.cons rfl (aa.cons rfl (aa.cons rfl (aa.cons rfl (aa.aM rfl (by(try dsimp only);exact(int_eq (by rw[wrap_i64 (by omega) (by omega)];omega))) (aa.nil _)))))) sl))))))
      . dsimp only
        exact⟨by omega,hg,hn,qA⟩
      . dsimp only
        omega
   .
    have Kj:=of_decide_eq_false Kj
    refine TT.exit (.seq (.loop (.here (.seq (.cut (ι:=(List az)×Value×Chunk) (fun j=>dN nx (j.1)/\Bt bad (j.1)/\Own aq 35 83 (j.2.1) (j.1) (j.2.2)) (fun j=>[(1,.int .i64 bad),(2,.string nm),(8,.pointer (some ⟨fH,0,none⟩))]) (fun j=>[(fH,blk [.int .i64 nx,(j.2.1)] 94 (0,0))]::(j.2.2)::hs) ?_ ?_)))))
    .
     refine TT.seq (.region (.U hT 3 rfl (.split 58 rfl (fun tH=> ?_) (fun tH=> ?_))))
     .
      have tH:=of_decide_eq_true tH
      obtain⟨k,rfl⟩:∃k:Nat,bad=k:=⟨bad.toNat,by omega⟩
      obtain⟨aw,cw,Es⟩:=(qA.row (hs:=[])).len
      subst Es
      refine OT.U hT 2 rfl (.load rfl rfl (Ld.slc hT rfl hz rfl) rfl ?_)
      refine OT.U hT 3 rfl (.nil (.seq (.cond rfl (fun ud=> ?_) (fun ud=> ?_))))
      .
       have ud:k<xs.length:=by have:=of_decide_eq_true ud;omega
       obtain⟨s1,dF⟩:=nth (l:=xs) (i:=k) ud
       obtain⟨nr,Kn⟩:=hn.lose hg dF
       obtain⟨ob,oo,oc,_,_,MN,_⟩:=qA.over (by omega)
       injection MN with e1 _ e3
       subst e1 e3
       refine TT.region (.U hT 1 rfl (.load rfl rfl (Ld.slc hT rfl hz rfl) rfl ?_))
       refine OT.U hT 1 rfl (.jQ hT rfl rfl rfl rfl (by omega) (by omega) rfl (.U hT 1 rfl (.iM k 2 hT rfl rfl rfl rfl pl qA dF (by omega) rfl (by decide) rfl (Cn true) (fun BU Lc=> ?_))))
       refine OT.nil (.cut (xs.set k {s1 with inv:=true},_,BU) ?_ (aa.cons rfl (aa.cons rfl (aa.cons rfl (aa.nil _)))) sl)
       . dsimp only
         exact⟨nr,Kn,Lc⟩
      .
       have ud:=of_decide_eq_false ud
       refine TT.skip (.cut (xs,_,K) ?_ (aa.cons rfl (aa.cons rfl (aa.cons rfl (aa.nil _)))) sl)
       . dsimp only
         exact⟨hg,hn.none (.inr (by omega)),qA⟩
     .
      have tH:=of_decide_eq_false tH
      refine OT.U hT 6 rfl (.nil (.seq (.cond_false rfl (.skip (.cut (xs,_,K) ?_ (aa.cons rfl (aa.cons rfl (aa.cons rfl (aa.nil _)))) sl)))))
      . dsimp only
        exact⟨hg,hn.none (.inl (by omega)),qA⟩
    .
     rintro⟨om,w2,K2⟩ hI
     dsimp only at hI
     obtain⟨nr,Kn,vG⟩:=hI
     show TT _ _ _ [(1,.int .i64 bad),(2,.string nm),(8,.pointer (some ⟨fH,0,none⟩))] ([(fH,blk [.int .i64 nx,w2] 94 (0,0))]::K2::hs)
     have PC:=nr.iZ
     have fG:=vG.j7
     obtain⟨Rr,hle⟩:=qU fG nr
     have hee:(encode nx om).2=0:=by unfold encode;rw[if_pos (oC.2 nr)]
     obtain⟨aw,cw,Es⟩:=(vG.row (hs:=[])).len
     subst Es
     refine TT.seq (.region (.build (cs:=aJ (List.replicate 96 (.slice none 0 0))) hT rfl Tryz.zeroValue30 rfl rfl kr rfl (.box rfl rfl rfl (fun pN=> ?_))))
     have pK:eL 30 pN tu [(pN,blk (aJ (List.replicate 96 (.slice none 0 0))) 30 (0,0))]:=eL.one (eu.zero [[]])
     show OT _ _ _ _ _ ([(pN,blk (aJ (List.replicate 96 (.slice none 0 0))) 30 (0,0))]::([(fH,blk [.int .i64 nx,.slice aw om.length cw] 94 (0,0))]::K2::hs))
     generalize([(pN,blk (aJ (List.replicate 96 (.slice none 0 0))) 30 (0,0))]:Chunk)=HB at pK⊢
     refine OT.U hT 1 rfl (.nil (.seq (.seq (.region (.load rfl rfl (Ld.af hT rfl hz rfl) rfl ?_)))))
     refine OT.call Tryz.call44 rfl rfl rfl rfl (nO (Row.mono (vG.row (hs:=hs)) fun b o hb=>Has.kf sl hb) (by omega)) ?_
     rintro Lb E6 ⟨wE,HE,rfl,rfl,Ji⟩
     rw[hee]
     refine OT.U hT 5 rfl (.nil (.seq (.seq (.seq (.region (.U hT 2 rfl (.nil (.seq (.cond_false rfl (.skip (.seq (.seq (.region (.U hT 4 rfl (.aT hT rfl rfl rfl rfl (by omega) (by decide) rfl (.bY (no:=0) hT rfl rfl rfl rfl pl pK pl Ji hle rfl (by decide) (fun jH ir rL=> ?_)))))))))))))))))
     refine OT.nil (.seq (.seq (.region (.load rfl rfl (Ld.af hT rfl hz rfl) rfl ?_))))
     refine OT.U hT 1 rfl (.call Tryz.call45 rfl rfl rfl rfl (lH (nm:=nm) (Row.mono (vG.row (hs:=hs)) fun b o hb=>Has.kf sl hb) (by omega)) ?_)
     rintro rK k9 ⟨rfl,rfl⟩
     refine OT.U hT 1 rfl (.nil (.seq (.seq (.region (.U hT 1 rfl (.nil (.seq (.cut (ι:=Int) (fun j=>um om nm (j)) (fun j=>[(2,.string nm),(13,.pointer (some ⟨pN,0,none⟩)),(17,.int .i64 (j))]) (fun j=>jH::hs) ?_ ?_))))))))
     .
      refine TT.seq (.region (.U hT 2 rfl (.nil (.seq (.cond rfl (fun BW=> ?_) (fun BW=> ?_))))))
      .
       have BW:=of_decide_eq_true BW
       refine TT.region (.U hT 1 rfl (.nil (.cut (6) ?_ (aa.cons rfl (aa.cons rfl (aa.cons rfl (aa.nil _)))) sl)))
       . exact .inl ⟨BW,rfl⟩
      .
       have BW:=of_decide_eq_false BW
       have hlt:=(qi (named nm) om 0).1
       obtain⟨i,hi⟩:∃i:Nat,findAt (named nm) 0 om=i:=⟨(findAt (named nm) 0 om).toNat,by omega⟩
       obtain⟨t,ht⟩:=nth (l:=om) (i:=i) (by omega)
       have BM:=Kn i t ht
       refine TT.seq (.region (.U hT 3 rfl (.nil (.seq (.cond rfl (fun BX=> ?_) (fun BX=> ?_))))))
       .
        have BX:=beq_iff_eq.1 BX
        refine TT.region (.U hT 1 rfl (.nil (.cut (12) ?_ (aa.cons rfl (aa.cons rfl (aa.cons rfl (aa.nil _)))) sl)))
        . exact .inr ⟨i,t,hi,ht,(if_pos (BM.2 (by omega))).symm⟩
       .
        have BX:=beq_eq_false_iff_ne.1 BX
        refine TT.skip (.cut (0) ?_ (aa.cons rfl (aa.cons rfl (aa.cons rfl (aa.nil _)))) sl)
        . exact .inr ⟨i,t,hi,ht,(if_neg (fun h=>BX (by have:=BM.1 h;omega))).symm⟩
     .
      rintro w hw
      show TT _ _ _ [(2,.string nm),(13,.pointer (some ⟨pN,0,none⟩)),(17,.int .i64 w)] (jH::hs)
      refine TT.seq (.region (.U hT 1 rfl (.bO Tryz.underlying26 rfl rfl rfl rfl (.U hT 1 rfl (.call Tryz.call42 rfl rfl rfl rfl (qm (nm:=nm) (nx:=nx) (xs:=om) oV ir (J1 (by decide)) (show((ef tu ((0:Nat):Int) (encode nx om).1) 0).length<=_ by show(encode nx om).1.length<=_;rw[hle];decide) (show di (encode nx om).1=_ from Rr) (by omega)) ?_)))))
      rintro N6 JU (⟨H',e,rfl,rfl,⟨PV,hf,rfl⟩|⟨_,i,s,hf,Ko,hsi,rfl⟩|⟨_,_,h⟩⟩|⟨_,bv,i,s,rfl,rfl,_,hf,Ko,hsi,_⟩)
      .
       obtain rfl:=hw.none hf
       refine OT.U hT 5 rfl (.nil (.seq (.seq (.region (.U hT 4 rfl (.U hT 7 rfl (.nil (.seq (.ret (.of (rs:=[.tmp 6]) [_] hs rfl (.tmp rfl .nil) sl ?_))))))))))
       try dsimp only[one]
       exact⟨rfl,rfl⟩
      .
       have Eu:=hw.at_ hf Ko
       rw[if_pos hsi]at Eu
       subst Eu
       refine OT.U hT 5 rfl (.nil (.seq (.seq (.region (.U hT 4 rfl (.U hT 7 rfl (.nil (.seq (.ret (.of (rs:=[.tmp 6]) [_] hs rfl (.tmp rfl .nil) sl ?_))))))))))
       try dsimp only[one]
       exact⟨rfl,rfl⟩
      .
       exact h.elim
      .
       have Eu:=hw.at_ hf Ko
       rw[if_neg (by rw[hsi];simp)]at Eu
       subst Eu
       refine OT.U hT 5 rfl (.nil (.seq (.seq (.region (.U hT 4 rfl (.U hT 7 rfl (.nil (.seq (.ret (.of (rs:=[.tmp 6]) [_] hs rfl (.tmp rfl .nil) sl ?_))))))))))
       try dsimp only[one]
       exact⟨rfl,rfl⟩
  .
   refine OT.U hT 3 rfl (.nil (.seq (.cond_false rfl (.exit (.seq (.loop (.here (.seq (.cut (ι:=(List az)×Value×Chunk) (fun j=>dN nx (j.1)/\Bt bad (j.1)/\Own aq 35 83 (j.2.1) (j.1) (j.2.2)) (fun j=>[(1,.int .i64 bad),(2,.string nm),(8,.pointer (some ⟨fH,0,none⟩))]) (fun j=>[(fH,blk [.int .i64 nx,(j.2.1)] 94 (0,0))]::(j.2.2)::hs) ?_ ?_)))))))))
   .
    refine TT.seq (.region (.U hT 3 rfl (.split 58 rfl (fun tH=> ?_) (fun tH=> ?_))))
    .
     have tH:=of_decide_eq_true tH
     obtain⟨k,rfl⟩:∃k:Nat,bad=k:=⟨bad.toNat,by omega⟩
     obtain⟨aw,cw,Es⟩:=(qA.row (hs:=[])).len
     subst Es
     refine OT.U hT 2 rfl (.load rfl rfl (Ld.slc hT rfl hz rfl) rfl ?_)
     refine OT.U hT 3 rfl (.nil (.seq (.cond rfl (fun ud=> ?_) (fun ud=> ?_))))
     .
      have ud:k<xs.length:=by have:=of_decide_eq_true ud;omega
      obtain⟨s1,dF⟩:=nth (l:=xs) (i:=k) ud
      obtain⟨nr,Kn⟩:=hn.lose hg dF
      obtain⟨ob,oo,oc,_,_,MN,_⟩:=qA.over (by omega)
      injection MN with e1 _ e3
      subst e1 e3
      refine TT.region (.U hT 1 rfl (.load rfl rfl (Ld.slc hT rfl hz rfl) rfl ?_))
      refine OT.U hT 1 rfl (.jQ hT rfl rfl rfl rfl (by omega) (by omega) rfl (.U hT 1 rfl (.iM k 2 hT rfl rfl rfl rfl pl qA dF (by omega) rfl (by decide) rfl (Cn true) (fun BU Lc=> ?_))))
      refine OT.nil (.cut (xs.set k {s1 with inv:=true},_,BU) ?_ (aa.cons rfl (aa.cons rfl (aa.cons rfl (aa.nil _)))) sl)
      . dsimp only
        exact⟨nr,Kn,Lc⟩
     .
      have ud:=of_decide_eq_false ud
      refine TT.skip (.cut (xs,_,K) ?_ (aa.cons rfl (aa.cons rfl (aa.cons rfl (aa.nil _)))) sl)
      . dsimp only
        exact⟨hg,hn.none (.inr (by omega)),qA⟩
    .
     have tH:=of_decide_eq_false tH
     refine OT.U hT 6 rfl (.nil (.seq (.cond_false rfl (.skip (.cut (xs,_,K) ?_ (aa.cons rfl (aa.cons rfl (aa.cons rfl (aa.nil _)))) sl)))))
     . dsimp only
       exact⟨hg,hn.none (.inl (by omega)),qA⟩
   .
    rintro⟨om,w2,K2⟩ hI
    dsimp only at hI
    obtain⟨nr,Kn,vG⟩:=hI
    show TT _ _ _ [(1,.int .i64 bad),(2,.string nm),(8,.pointer (some ⟨fH,0,none⟩))] ([(fH,blk [.int .i64 nx,w2] 94 (0,0))]::K2::hs)
    have PC:=nr.iZ
    have fG:=vG.j7
    obtain⟨Rr,hle⟩:=qU fG nr
    have hee:(encode nx om).2=0:=by unfold encode;rw[if_pos (oC.2 nr)]
    obtain⟨aw,cw,Es⟩:=(vG.row (hs:=[])).len
    subst Es
    refine TT.seq (.region (.build (cs:=aJ (List.replicate 96 (.slice none 0 0))) hT rfl Tryz.zeroValue30 rfl rfl kr rfl (.box rfl rfl rfl (fun pN=> ?_))))
    have pK:eL 30 pN tu [(pN,blk (aJ (List.replicate 96 (.slice none 0 0))) 30 (0,0))]:=eL.one (eu.zero [[]])
    show OT _ _ _ _ _ ([(pN,blk (aJ (List.replicate 96 (.slice none 0 0))) 30 (0,0))]::([(fH,blk [.int .i64 nx,.slice aw om.length cw] 94 (0,0))]::K2::hs))
    generalize([(pN,blk (aJ (List.replicate 96 (.slice none 0 0))) 30 (0,0))]:Chunk)=HB at pK⊢
    refine OT.U hT 1 rfl (.nil (.seq (.seq (.region (.load rfl rfl (Ld.af hT rfl hz rfl) rfl ?_)))))
    refine OT.call Tryz.call44 rfl rfl rfl rfl (nO (Row.mono (vG.row (hs:=hs)) fun b o hb=>Has.kf sl hb) (by omega)) ?_
    rintro Lb E6 ⟨wE,HE,rfl,rfl,Ji⟩
    rw[hee]
    refine OT.U hT 5 rfl (.nil (.seq (.seq (.seq (.region (.U hT 2 rfl (.nil (.seq (.cond_false rfl (.skip (.seq (.seq (.region (.U hT 4 rfl (.aT hT rfl rfl rfl rfl (by omega) (by decide) rfl (.bY (no:=0) hT rfl rfl rfl rfl pl pK pl Ji hle rfl (by decide) (fun jH ir rL=> ?_)))))))))))))))))
    refine OT.nil (.seq (.seq (.region (.load rfl rfl (Ld.af hT rfl hz rfl) rfl ?_))))
    refine OT.U hT 1 rfl (.call Tryz.call45 rfl rfl rfl rfl (lH (nm:=nm) (Row.mono (vG.row (hs:=hs)) fun b o hb=>Has.kf sl hb) (by omega)) ?_)
    rintro rK k9 ⟨rfl,rfl⟩
    refine OT.U hT 1 rfl (.nil (.seq (.seq (.region (.U hT 1 rfl (.nil (.seq (.cut (ι:=Int) (fun j=>um om nm (j)) (fun j=>[(2,.string nm),(13,.pointer (some ⟨pN,0,none⟩)),(17,.int .i64 (j))]) (fun j=>jH::hs) ?_ ?_))))))))
    .
     refine TT.seq (.region (.U hT 2 rfl (.nil (.seq (.cond rfl (fun BW=> ?_) (fun BW=> ?_))))))
     .
      have BW:=of_decide_eq_true BW
      refine TT.region (.U hT 1 rfl (.nil (.cut (6) ?_ (aa.cons rfl (aa.cons rfl (aa.cons rfl (aa.nil _)))) sl)))
      . exact .inl ⟨BW,rfl⟩
     .
      have BW:=of_decide_eq_false BW
      have hlt:=(qi (named nm) om 0).1
      obtain⟨i,hi⟩:∃i:Nat,findAt (named nm) 0 om=i:=⟨(findAt (named nm) 0 om).toNat,by omega⟩
      obtain⟨t,ht⟩:=nth (l:=om) (i:=i) (by omega)
      have BM:=Kn i t ht
      refine TT.seq (.region (.U hT 3 rfl (.nil (.seq (.cond rfl (fun BX=> ?_) (fun BX=> ?_))))))
      .
       have BX:=beq_iff_eq.1 BX
       refine TT.region (.U hT 1 rfl (.nil (.cut (12) ?_ (aa.cons rfl (aa.cons rfl (aa.cons rfl (aa.nil _)))) sl)))
       . exact .inr ⟨i,t,hi,ht,(if_pos (BM.2 (by omega))).symm⟩
      .
       have BX:=beq_eq_false_iff_ne.1 BX
       refine TT.skip (.cut (0) ?_ (aa.cons rfl (aa.cons rfl (aa.cons rfl (aa.nil _)))) sl)
       . exact .inr ⟨i,t,hi,ht,(if_neg (fun h=>BX (by have:=BM.1 h;omega))).symm⟩
    .
     rintro w hw
     show TT _ _ _ [(2,.string nm),(13,.pointer (some ⟨pN,0,none⟩)),(17,.int .i64 w)] (jH::hs)
     refine TT.seq (.region (.U hT 1 rfl (.bO Tryz.underlying26 rfl rfl rfl rfl (.U hT 1 rfl (.call Tryz.call42 rfl rfl rfl rfl (qm (nm:=nm) (nx:=nx) (xs:=om) oV ir (J1 (by decide)) (show((ef tu ((0:Nat):Int) (encode nx om).1) 0).length<=_ by show(encode nx om).1.length<=_;rw[hle];decide) (show di (encode nx om).1=_ from Rr) (by omega)) ?_)))))
     rintro N6 JU (⟨H',e,rfl,rfl,⟨PV,hf,rfl⟩|⟨_,i,s,hf,Ko,hsi,rfl⟩|⟨_,_,h⟩⟩|⟨_,bv,i,s,rfl,rfl,_,hf,Ko,hsi,_⟩)
     .
      obtain rfl:=hw.none hf
      refine OT.U hT 5 rfl (.nil (.seq (.seq (.region (.U hT 4 rfl (.U hT 7 rfl (.nil (.seq (.ret (.of (rs:=[.tmp 6]) [_] hs rfl (.tmp rfl .nil) sl ?_))))))))))
      try dsimp only[one]
      exact⟨rfl,rfl⟩
     .
      have Eu:=hw.at_ hf Ko
      rw[if_pos hsi]at Eu
      subst Eu
      refine OT.U hT 5 rfl (.nil (.seq (.seq (.region (.U hT 4 rfl (.U hT 7 rfl (.nil (.seq (.ret (.of (rs:=[.tmp 6]) [_] hs rfl (.tmp rfl .nil) sl ?_))))))))))
      try dsimp only[one]
      exact⟨rfl,rfl⟩
     .
      exact h.elim
     .
      have Eu:=hw.at_ hf Ko
      rw[if_neg (by rw[hsi];simp)]at Eu
      subst Eu
      refine OT.U hT 5 rfl (.nil (.seq (.seq (.region (.U hT 4 rfl (.U hT 7 rfl (.nil (.seq (.ret (.of (rs:=[.tmp 6]) [_] hs rfl (.tmp rfl .nil) sl ?_))))))))))
      try dsimp only[one]
      exact⟨rfl,rfl⟩
end Go.Proofs.YtihpkgmfkbkffaaGreat.Sx
end
