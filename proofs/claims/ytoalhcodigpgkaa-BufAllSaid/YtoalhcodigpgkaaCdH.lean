/- The log: made, read, put, appended. Printed by a program of ours off the loaded program and our notes; Lean checks it. -/
import Derived.Test.YtoalhcodigpgkaaPdC
import Derived.Test.YtoalhcodigpgkaaSxT
import Derived.Test.YtoalhcodigpgkaaCdG
import Derived.Test.YtoalhcodigpgkaaCtA
import Derived.Test.YtoalhcodigpgkaaSxL
namespace Go.Proofs.Ytoalhcodigpgkaa.Sx
open Go Go.Sx Go.Pl
variable [Outer]

omit [Outer] in
set_option maxRecDepth 100000 in
theorem zeroLog : Try.zeroCells72.toList = logCells (.pointer none) (.pointer none) (noughts 65536) 0 0 0 (.slice none 0 0) false := by
  have h : isPre (Try.zeroCells72.toList.drop 2) 65536 = some [.int .i64 0, .int .i64 0, .int .i64 0, .slice none 0 0, .bool false] := by kernel_rfl
  have h := isPre_eq 65536 h
  have h2 : Try.zeroCells72.toList.take 2 = [.pointer none, .pointer none] := by kernel_rfl
  rw [← List.take_append_drop 2 Try.zeroCells72.toList, h, h2]
  rfl

set_option maxHeartbeats 1000000 in
set_option maxRecDepth 100000 in
theorem wal_text {x y : Nat} (hx : x ≤ 1152921504606846976) (hy : y ≤ 1152921504606846976) {r : List Chunk} : Fun Try.prog 28 [.int .i64 (x : Nat), .int .i64 (y : Nat)] r (fun v' hs' => ∃ H', hs' = H' :: r ∧ Own Go.Sx.encB 1 5 v' (logText x y) H') := by
  refine Fun.enter 9 Try.func28 rfl Try.ntmps28 rfl ?_
  have hxl := put_ten (n := (x : Int)) (by omega) (by omega)
  refine TT.seq (.region (.pures hT 1 rfl (.nil (.seq (.seq (.region (.pures hT 1 rfl (.call Try.call51 rfl rfl rfl rfl (Fun.chunk0 (num_Put Own.nil (by omega) (by omega) (by simp))) ?_))))))))
  rintro v_6 hs_6 ⟨H1, rfl, ho1⟩
  rw [List.nil_append] at ho1
  refine OT.pures hT 1 rfl (.call Try.call51 rfl rfl rfl rfl (num_Put ho1 (by omega) (by omega) (by omega)) ?_)
  rintro v_8 hs_8 ⟨H2, rfl, ho2⟩
  refine OT.pures hT 1 rfl (.nil (.seq (.ret (.of (rs := [.tmp 4]) [_] (H2 :: r) rfl (.tmp rfl .nil) sl ?_))))
  dsimp only [one]
  exact ⟨_, rfl, ho2⟩

set_option maxHeartbeats 1000000 in
set_option maxRecDepth 100000 in
theorem wal_load {b : Nat} {pd ps v : Value} {ring : List UInt8} {base forced end_ : Nat} {bad : Bool} (hrl : ring.length = 65536) {r : List Chunk} {d : Dev} {HD : Chunk} (hd : IsDev 89 65 pd d HD) (h14 : 1410 ≤ d.secs.length) : Fun Try.prog 29 [.pointer (some ⟨b, 0, none⟩)] ([(b, blk (logCells pd ps ring base forced end_ v bad) 72 (0, 0))] :: HD :: r) (fun v' hs' => v' = .int .i64 0 ∧ [(b, blk (logCells pd ps (Log.load d) base forced end_ v bad) 72 (0, 0))] :: HD :: r = hs') := by
  refine Fun.enter 31 Try.func29 rfl Try.ntmps29 rfl ?_
  have hmost := hd.ok.most
  refine TT.seq (.region (.pures hT 1 rfl (.nil (.seq (.seq (.seq (.region (.pures hT 1 rfl (.nil (.seq (.block (.loop (ι := Nat) (fun j => (j) ≤ 1024) (fun j => 1024 - (j)) (fun j => [(0, .pointer (some ⟨b, 0, none⟩)), (6, .int .i64 ((j) : Nat))]) (fun j => [(b, blk (logCells pd ps (loadTo d (j) ring) base forced end_ v bad) 72 (0, 0))] :: HD :: r) (0) ?_ (SubR.cons rfl (SubR.cons rfl (SubR.nil _))) (by rw [loadTo_zero]; exact sl) ?_))))))))))))
  · omega
  rintro k hk
  show TT _ _ _ [(0, .pointer (some ⟨b, 0, none⟩)), (6, .int .i64 (k : Nat))] ([(b, blk (logCells pd ps (loadTo d k ring) base forced end_ v bad) 72 (0, 0))] :: HD :: r)
  refine TT.seq (.region (.pures hT 1 rfl (.nil (.seq (.seq (.cond rfl (fun c7 => ?_) (fun c7 => ?_)))))))
  ·
    have c7 := of_decide_eq_true c7
    have hin : d.in (386 + (k : Nat)) := by unfold Dev.in; omega
    have hrd : d.read (386 + (k : Nat)) = ((d.sec (386 + (k : Nat))).now, 0) := by unfold Dev.read; rw [if_pos hin]
    have hx := (Dev.sec_ok hd.ok hin).1
    have hlen := loadTo_length hd.ok h14 (k := k) (by omega) hrl
    refine TT.skip (.seq (.seq (.block (.seq (.region (.pures hT 2 rfl (.nil (.seq (.seq (.region (.pures hT 3 rfl (.load rfl rfl (Ld.one hT rfl hz rfl) rfl ?_))))))))))))
    refine OT.pures hT 2 rfl (.reg 15 rfl (v := .int .i64 (386 + (k : Nat))) (int_eq (wrap_i64 (by omega) (by omega))) (.call Try.call47 rfl rfl rfl rfl (Fun.pull pl (dev_Read hd)) ?_))
    rintro v_16 hs_16 ⟨w1, H1, rfl, rfl, ho1⟩
    rw [hrd] at ho1 ⊢
    dsimp only at ho1 ⊢
    refine OT.pures hT 5 rfl (.nil (.seq (.seq (.seq (.region (.pures hT 2 rfl (.nil (.seq (.cond rfl (fun c20 => ?_) (fun c20 => ?_))))))))))
    ·
      exact absurd c20 (by decide)
    ·
      refine TT.skip (.seq (.region (.pures hT 5 rfl (.reg 26 rfl (v := .int .i64 ((64 * k : Nat) : Int)) (int_eq (by rw [wrap_i64 (by omega) (by omega)]; omega)) (.slice_arr (64 * k) 65536 hT rfl rfl rfl rfl rfl (.inr ⟨_, rfl⟩) (.inl ⟨rfl, rfl⟩) (by omega) (by omega) (by omega) rfl (.pures hT 1 rfl (.copy_raw hT rfl rfl rfl rfl pl ho1.row (by rw [logc_length hlen]; omega) (ones_bytes _) (.inl (Nat.le_refl _)) rfl ?_)))))))
      rw [List.take_of_length_le (by omega), show 0 + 2 + 64 * k * 1 = 2 + 64 * k by omega, logs_ring hlen (by omega), loadTo_step hd.ok h14 (by omega) hrl]
      refine OT.nil (.blk (.seq (.region (.pures hT 2 rfl (.nil (.loop (k + 1) ?_ ?_ (SubR.cons rfl (SubR.cons' rfl (by (try dsimp only); exact (int_eq (by rw [wrap_i64 (by omega) (by omega)]; omega))) (SubR.nil _))) sl))))))
      · omega
      · omega
  ·
    have c7 := of_decide_eq_false c7
    obtain rfl : k = 1024 := by omega
    rw [loadTo_all hrl]
    refine TT.exit (.seq (.loop (.here (.seq (.seq (.region (.pures hT 1 rfl (.nil (.seq (.ret (.of (rs := [.tmp 2]) [_] ([(b, blk (logCells pd ps (Log.load d) base forced end_ v bad) 72 (0, 0))] :: HD :: r) rfl (.tmp rfl .nil) sl ?_)))))))))))
    dsimp only [one]
    exact ⟨rfl, rfl⟩

set_option maxHeartbeats 2000000 in
set_option maxRecDepth 100000 in
theorem wal_Make {p : Value} {d : Dev} {H : Chunk} {r : List Chunk} (hd : IsDev 89 65 p d H) : Fun Try.prog 10 [p] (H :: r) (fun v' hs' => ∃ q HL HD', hs' = HL :: HD' :: r ∧ v' = .tuple ⟨[q, .int .i64 (logMake d).2.2]⟩ ∧ optLog 5 2 98 72 p (logMake d).1 q HL ∧ IsDev 89 65 p (logMake d).2.1 HD') := by
  refine Fun.enter 26 Try.func10 rfl Try.ntmps10 rfl ?_
  have hmost := hd.ok.most
  obtain ⟨bp, hpd⟩ := hd.ptr
  subst hpd
  refine TT.seq (.region (.pures hT 2 rfl (.nil (.seq (.seq (.seq (.region (.pures hT 1 rfl (.call Try.call26 rfl rfl rfl rfl (dev_Len hd) ?_)))))))))
  rintro v_8 hs_8 ⟨rfl, rfl⟩
  refine OT.pures hT 1 rfl (.nil (.seq (.cond rfl (fun c9 => ?_) (fun c9 => ?_))))
  ·
    have c9 := of_decide_eq_true c9
    have hm : (logMake d) = (none, d, 3) := by unfold logMake; rw [if_pos c9]
    rw [hm]
    refine TT.seq (.region (.pures hT 2 rfl (.nil (.seq (.ret (.of (rs := [.tmp 2, .tmp 3]) [_, _] ([] :: H :: r) rfl (.tmp rfl (.tmp rfl .nil)) sl ?_))))))
    dsimp only [one]
    exact ⟨_, _, _, rfl, rfl, ⟨rfl, rfl⟩, hd⟩
  ·
    have c9 := of_decide_eq_false c9
    refine TT.skip (.seq (.seq (.region (.pures hT 1 rfl (.call Try.call28 rfl rfl rfl rfl (wal_text (x := 0) (y := 0) (by omega) (by omega)) ?_)))))
    rintro v_12 hs_12 ⟨HT, rfl, hoT⟩
    have htl := logText_length (a := 0) (b := 0) (by omega) (by omega)
    refine OT.call Try.call27 rfl rfl rfl rfl (Fun.pull pl (super_Make hd (by omega) (by omega) hoT.row)) ?_
    rintro v_13 hs_13 ⟨ps, HS, HD, rfl, rfl, hopt, hd2⟩
    refine OT.pures hT 5 rfl (.nil (.seq (.seq (.seq (.region (.pures hT 2 rfl (.nil (.seq (.cond rfl (fun c17 => ?_) (fun c17 => ?_))))))))))
    ·
      have c17 : (supMake d 0 (logText 0 0)).2.2 ≠ 0 := by simpa using c17
      have hn := supMake_none c17
      have hm : (logMake d) = (none, (supMake d 0 (logText 0 0)).2.1, (supMake d 0 (logText 0 0)).2.2) := by
        unfold logMake; rw [if_neg c9]
        generalize hq : supMake d 0 (logText 0 0) = q at *
        obtain ⟨q1, q2, q3⟩ := q
        subst hn; rfl
      rw [hm]
      refine TT.seq (.region (.pures hT 3 rfl (.nil (.seq (.ret (.of (rs := [.tmp 2, .tmp 3]) [_, _] ([] :: HD :: r) rfl (.tmp rfl (.tmp rfl .nil)) sl ?_))))))
      dsimp only [one]
      exact ⟨_, _, _, rfl, rfl, ⟨rfl, rfl⟩, hd2⟩
    ·
      have c17 : (supMake d 0 (logText 0 0)).2.2 = 0 := by simpa using c17
      obtain ⟨s, hs1⟩ := supMake_some c17 (by omega)
      have hm : (logMake d) = (some ⟨Log.load (supMake d 0 (logText 0 0)).2.1, 0, 0, 0, [], false, s⟩, (supMake d 0 (logText 0 0)).2.1, 0) := by
        unfold logMake; rw [if_neg c9]
        generalize hq : supMake d 0 (logText 0 0) = q at *
        obtain ⟨q1, q2, q3⟩ := q
        subst hs1; rfl
      rw [hm]
      rw [hs1] at hopt
      have hopt : IsSup 5 98 ps (.pointer (some ⟨bp, 0, none⟩)) 0 s HS := hopt
      obtain ⟨bs, hps⟩ := hopt.ptr
      subst hps
      have hsecs := supMake_secs d 0 (logText 0 0)
      refine TT.skip (.seq (.seq (.region (.pures hT 2 rfl (.build (cs := logCells (.pointer (some ⟨bp, 0, none⟩)) (.pointer (some ⟨bs, 0, none⟩)) (noughts 65536) 0 0 0 (.slice none 0 0) false) hT rfl Try.zeroValue72 rfl rfl (show fillL logFields Try.zeroCells72.toList _ = _ from zeroLog ▸ fill_log (noughts_length _) _ _) rfl (.box rfl rfl rfl (fun b_22 => ?_)))))))
      refine OT.pures hT 1 rfl (.nil (.seq (.seq (.region (.pures hT 2 rfl (.call Try.call29 rfl rfl rfl rfl (Fun.pull (A := HD) pl (Fun.pull (A := [(b_22, blk (logCells (.pointer (some ⟨bp, 0, none⟩)) (.pointer (some ⟨bs, 0, none⟩)) (noughts 65536) 0 0 0 (.slice none 0 0) false) 72 (0, 0))]) pl (wal_load (base := 0) (forced := 0) (end_ := 0) (noughts_length _) hd2 (by rw [hsecs]; omega)))) ?_))))))
      rintro v_25 hs_25 ⟨rfl, rfl⟩
      refine OT.pures hT 2 rfl (.nil (.seq (.ret (.of (rs := [.tmp 2, .tmp 3]) [_, _] (([(b_22, blk (logCells (.pointer (some ⟨bp, 0, none⟩)) (.pointer (some ⟨bs, 0, none⟩)) (Log.load (supMake d 0 (logText 0 0)).2.1) 0 0 0 (.slice none 0 0) false) 72 (0, 0))] ++ (HS ++ [])) :: HD :: r) rfl (.tmp rfl (.tmp rfl .nil)) sl ?_))))
      dsimp only [one]
      exact ⟨_, _, _, rfl, rfl, ⟨⟨ringLoad_length hd2.ok (by rw [hsecs]; omega), ⟨Nat.le_refl _, Nat.le_refl _⟩, by dsimp only; omega, by simp, by simp, by dsimp only; omega⟩, ⟨b_22, _, _, HS, [], rfl, hopt, Own.nil, rfl, rfl⟩⟩, hd2⟩

set_option maxHeartbeats 1000000 in
set_option maxRecDepth 100000 in
theorem wal_at {b : Nat} {n : Nat} {hs : List Chunk} : Fun Try.prog 55 [.pointer (some ⟨b, 0, none⟩), .int .i64 (n : Nat)] hs (fun v' hs' => v' = .pointer (some ⟨b, 2 + n % 65536, none⟩) ∧ hs = hs') := by
  refine Fun.enter 11 Try.func55 rfl Try.ntmps55 rfl ?_
  refine TT.seq (.region (.pures hT 1 rfl (.nil (.seq (.seq (.region (.pures hT 5 rfl (.reg 7 rfl (v := .int .i64 ((n % 65536 : Nat) : Int)) (int_eq (by rw [Int.tmod_eq_emod_of_nonneg (by omega)]; omega)) (.index_at hT rfl rfl rfl rfl (by omega) (by omega) rfl (.pures hT 1 rfl (.nil (.seq (.ret (.of (rs := [.tmp 4]) [_] hs rfl (.tmp rfl .nil) sl ?_))))))))))))))
  dsimp only [one]
  exact ⟨by congr 3; omega, rfl⟩

set_option maxHeartbeats 1000000 in
set_option maxRecDepth 100000 in
theorem wal_put {b : Nat} {pd ps v : Value} {ring : List UInt8} {base forced end_ : Nat} {bad : Bool} (hrl : ring.length = 65536) {r : List Chunk} {vb : Value} {bs : List UInt8} (hr : Row Go.Sx.encB 1 r vb bs) (hen : end_ + bs.length ≤ 1152921504606846976) : Fun Try.prog 35 [.pointer (some ⟨b, 0, none⟩), vb] ([(b, blk (logCells pd ps ring base forced end_ v bad) 72 (0, 0))] :: r) (fun v' hs' => v' = .tuple ⟨[]⟩ ∧ [(b, blk (logCells pd ps (ringPut ring end_ bs) base forced (end_ + bs.length) v bad) 72 (0, 0))] :: r = hs') := by
  refine Fun.enter 28 Try.func35 rfl Try.ntmps35 rfl ?_
  obtain ⟨ab, cb, hvb⟩ := hr.len
  subst hvb
  refine TT.seq (.region (.pures hT 3 rfl (.nil (.seq (.block (.loop (ι := Nat) (fun j => (j) ≤ bs.length) (fun j => bs.length - (j)) (fun j => [(0, .pointer (some ⟨b, 0, none⟩)), (6, .slice ab bs.length cb), (7, .int .i64 bs.length), (8, .int .i64 ((j) : Nat))]) (fun j => [(b, blk (logCells pd ps (ringPut ring end_ (bs.take (j))) base forced (end_ + (j)) v bad) 72 (0, 0))] :: r) (0) ?_ (SubR.cons rfl (SubR.cons rfl (SubR.cons rfl (SubR.cons rfl (SubR.nil _))))) sl ?_))))))
  · omega
  rintro i hi
  show TT _ _ _ [(0, .pointer (some ⟨b, 0, none⟩)), (6, .slice ab bs.length cb), (7, .int .i64 bs.length), (8, .int .i64 (i : Nat))] ([(b, blk (logCells pd ps (ringPut ring end_ (bs.take i)) base forced (end_ + i) v bad) 72 (0, 0))] :: r)
  have hlen : (ringPut ring end_ (bs.take i)).length = 65536 := by rw [ringPut_length]; exact hrl
  refine TT.seq (.region (.pures hT 1 rfl (.nil (.seq (.seq (.cond rfl (fun c9 => ?_) (fun c9 => ?_)))))))
  ·
    have c9 := of_decide_eq_true c9
    obtain ⟨c, hc⟩ := nth (l := bs) (i := i) (by omega)
    have hnx : (ringPut ring end_ (bs.take i)).set ((end_ + i) % 65536) c = ringPut ring end_ (bs.take (i + 1)) := by rw [take_succ hc, ringPut_snoc, List.length_take, Nat.min_eq_left (by omega)]
    have hlen2 : (ringPut ring end_ (bs.take (i + 1))).length = 65536 := by rw [ringPut_length]; exact hrl
    refine TT.skip (.seq (.seq (.block (.seq (.region (.index hT rfl rfl rfl rfl hr.there (by omega) hc rfl (fun ad_10 hel_10 => ?_)))))))
    refine OT.load rfl rfl (hel_10.ld_one hT rfl rfl) rfl (.pures hT 1 rfl (.nil (.seq (.seq (.region (.pures hT 4 rfl (.load rfl rfl (Ld.one hT rfl hz (logc_end hlen)) rfl ?_)))))))
    refine OT.call Try.call55 rfl rfl rfl rfl (wal_at) ?_
    rintro v_17 hs_17 ⟨rfl, rfl⟩
    refine OT.pures hT 2 rfl (.store hT rfl rfl rfl rfl pl rfl (by rw [logc_length hlen]; show 2 + (end_ + i) % 65536 + 1 ≤ 65543; omega) rfl (.inl (Nat.le_refl _)) (by rw [show (Value.int IntKind.u8 (c.toNat : Int)).cells.toList = [.int .u8 c.toNat] from rfl, logs_byte hlen (by omega), hnx]) ?_)
    refine OT.nil (.seq (.region (.pures hT 3 rfl (.load rfl rfl (Ld.one hT rfl hz (logc_end hlen2)) rfl ?_))))
    refine OT.pures hT 3 rfl (.store hT rfl rfl rfl rfl pl rfl (by rw [logc_length hlen2]; decide) rfl (.inl (Nat.le_refl _)) (cs' := logCells pd ps (ringPut ring end_ (bs.take (i + 1))) base forced (end_ + (i + 1)) v bad) (by rw [wrap_i64 (by omega) (by omega), show ((end_ + i : Nat) : Int) + 1 = ((end_ + (i + 1) : Nat) : Int) by omega]; exact logs_end hlen2 _) ?_)
    refine OT.nil (.blk (.seq (.region (.pures hT 2 rfl (.nil (.loop (i + 1) ?_ ?_ (SubR.cons rfl (SubR.cons rfl (SubR.cons rfl (SubR.cons' rfl (by (try dsimp only); exact (int_eq (by rw [wrap_i64 (by omega) (by omega)]; omega))) (SubR.nil _))))) sl))))))
    · omega
    · omega
  ·
    have c9 := of_decide_eq_false c9
    obtain rfl : i = bs.length := by omega
    rw [List.take_length]
    refine TT.exit (.seq (.loop (.here (.of (rs := []) [] ([(b, blk (logCells pd ps (ringPut ring end_ bs) base forced (end_ + bs.length) v bad) 72 (0, 0))] :: r) rfl .nil sl ?_))))
    dsimp only [one]
    exact ⟨rfl, rfl⟩

set_option maxHeartbeats 1000000 in
set_option maxRecDepth 100000 in
theorem wal_Forced {p pd : Value} {l : Log} {H : Chunk} {r : List Chunk} (hl : IsLog 5 2 98 72 p pd l H) : Fun Try.prog 25 [p] (H :: r) (fun v' hs' => v' = .int .i64 (l.forced : Nat) ∧ H :: r = hs') := by
  refine Fun.enter 9 Try.func25 rfl Try.ntmps25 rfl ?_
  obtain ⟨b, ps, v, HS, Ke, hpp, hSup, hE, hone, hH⟩ := hl.is
  subst hpp
  subst hH
  have hrl := hl.ok.ring
  obtain ⟨hob, hof⟩ := hl.ok.order
  have hmo := hl.ok.most
  have hrm := hl.ok.room
  have hfew := hl.ok.few
  refine TT.perm perm3 (.seq (.region (.pures hT 1 rfl (.nil (.seq (.seq (.seq (.region (.pures hT 2 rfl (.nil (.seq (.cond_false rfl (.skip (.seq (.seq (.region (.pures hT 3 rfl (.load rfl rfl (Ld.one hT rfl hz (logc_forced hrl)) rfl ?_))))))))))))))))))
  refine OT.pures hT 1 rfl (.nil (.seq (.ret (.of (rs := [.tmp 2]) [_] (([(b, blk (logCells pd ps l.ring l.base l.forced l.end_ v l.bad) 72 (0, 0))] ++ (HS ++ Ke)) :: r) rfl (.tmp rfl .nil) sl ?_))))
  dsimp only [one]
  exact ⟨rfl, rfl⟩

end Go.Proofs.Ytoalhcodigpgkaa.Sx
