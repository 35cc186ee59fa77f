/-
  The sum, by the reference's text: its rounds.
-/
import Derived.Test.YtdfgegicfhcmeaaGreatDoorSip3
namespace Go.Proofs.YtdfgegicfhcmeaaGreatDoor
open Go.RowKit

def RefRel (W : World) (s : S4) (n : Nat) (a b c d i : Value) (w : World) : Prop :=
  ∃ k : Nat, k ≤ n ∧ i = .int .i64 k ∧ a = .int .u64 (roundN s k).a ∧ b = .int .u64 (roundN s k).b ∧ c = .int .u64 (roundN s k).c ∧ d = .int .u64 (roundN s k).d ∧ Below W.heap.size W w ∧ (∃ cs, Blk w (W.heap.size + 1) 69 cs ∧ cs.size = 4)

theorem RefRel.step {W wr : World} {s : S4} (n k : Nat) (h : k < n) (m : Nat) (hb : Below W.heap.size W wr) (hc : ∃ cs, Blk wr (W.heap.size + 1) 69 cs ∧ cs.size = 4) {S : S4} (e : S = roundN s k) :
    RefRel W s n (.int .u64 (ad (rotl (ad S.a S.b) 32) (bx (rotl S.d 16) (ad S.c S.d)))) (.int .u64 (bx (rotl (bx (rotl S.b 13) (ad S.a S.b)) 17) (ad (ad S.c S.d) (bx (rotl S.b 13) (ad S.a S.b)))))
      (.int .u64 (rotl (ad (ad S.c S.d) (bx (rotl S.b 13) (ad S.a S.b))) 32)) (.int .u64 (bx (rotl (bx (rotl S.d 16) (ad S.c S.d)) 21) (ad (rotl (ad S.a S.b) 32) (bx (rotl S.d 16) (ad S.c S.d))))) (.int .i64 ((k : Int) + 1)) (wr.drewN m) := by
  subst e
  exact ⟨k + 1, h, by go_num, rfl, rfl, rfl, rfl, below_drewN hb m, hc⟩

set_option maxRecDepth 100000 in
set_option maxHeartbeats 1000000 in
theorem ref_rounds (s : S4) (hs : s.ok) (n : Nat) (hn : n ≤ 100) (W : World) :
    Calls Tryz.prog 50 #[.agg s.cells, .int .i64 n] W fun e w' => e = .returned (.agg (roundN s n).cells) ∧ Below W.heap.size W w' := by
  obtain ⟨a, b, c, d⟩ := s
  have HS := Lib.hid hs
  clear hs
  unfold S4.cells
  go_enter Tryz.func50, Tryz.ntmps50
  go_wp2_with fail
  go_quiet (fail)
  go_wp2_with fail
  go_loopw [5, 6, 7, 8, 18] (fun v5 v6 v7 v8 i wr => RefRel W ⟨a, b, c, d⟩ n v5 v6 v7 v8 i wr) (fun _ _ _ _ i _ => n - (intOf i).toNat)
  case atStart => exact ⟨0, by omega, rfl, rfl, rfl, rfl, rfl, below_drewN (((Below.refl _ _).alloc (Nat.le_refl _) _).alloc (by simp) _) _, ⟨_, by simpa using ((Blk.new (W.alloc (.cells #[.int .u64 a, .int .u64 b, .int .u64 c, .int .u64 d] 69)) 69 #[.int .u64 0, .int .u64 0, .int .u64 0, .int .u64 0]).drewN _), rfl⟩⟩
  case round =>
    obtain ⟨k, hk, rfl, rfl, rfl, rfl, rfl, hb, cs, hcs, hsz⟩ := hrel
    have hok := roundN_ok _ HS.out k
    have HB := Lib.hid hb
    have HC := Lib.hid hcs
    by_cases hlt : k < n
    · obtain ⟨S, hS⟩ : ∃ S : S4, S = roundN ⟨a, b, c, d⟩ k := ⟨_, rfl⟩
      rw [← hS] at hok ⊢
      have HE := Lib.hid hS
      have HOK := Lib.hid hok
      clear hS hok hb hcs
      go_wp2_with fail
      refine (turn_k S.b 13 _ HOK.out.2.1 (by omega) (by omega)).mono ?_
      rintro e w1 ⟨rfl, n1, rfl⟩
      go_wp2_with fail
      refine (turn_k _ 32 _ (u64_wrap _) (by omega) (by omega)).mono ?_
      rintro e w1 ⟨rfl, n2, rfl⟩
      go_wp2_with fail
      refine (turn_k S.d 16 _ HOK.out.2.2.2 (by omega) (by omega)).mono ?_
      rintro e w1 ⟨rfl, n3, rfl⟩
      go_wp2_with fail
      refine (turn_k _ 21 _ (u64_bits _ _ _ (.inr (.inl rfl))) (by omega) (by omega)).mono ?_
      rintro e w1 ⟨rfl, n4, rfl⟩
      go_wp2_with fail
      refine (turn_k _ 17 _ (u64_bits _ _ _ (.inr (.inl rfl))) (by omega) (by omega)).mono ?_
      rintro e w1 ⟨rfl, n5, rfl⟩
      go_wp2_with fail
      refine (turn_k _ 32 _ (u64_wrap _) (by omega) (by omega)).mono ?_
      rintro e w1 ⟨rfl, n6, rfl⟩
      go_wp2_with fail
      exact ⟨RefRel.step n k hlt _ HB.out ⟨cs, HC.out, hsz⟩ HE.out, by simp [intOf]; omega⟩
    · obtain rfl : k = n := by omega
      obtain ⟨l⟩ := cs
      match l, hsz with
      | [z0, z1, z2, z3], _ =>
        have c0 : wr.cell? ⟨W.heap.size + 1, 0, none⟩ = some z0 := HC.out.cell 0
        have c1 : wr.cell? ⟨W.heap.size + 1, 1, none⟩ = some z1 := HC.out.cell 1
        have c2 : wr.cell? ⟨W.heap.size + 1, 2, none⟩ = some z2 := HC.out.cell 2
        have c3 : wr.cell? ⟨W.heap.size + 1, 3, none⟩ = some z3 := HC.out.cell 3
        have f0 := HC.out.frozen 0
        have f1 := HC.out.frozen 1
        have f2 := HC.out.frozen 2
        have f3 := HC.out.frozen 3
        clear hb hcs hok
        go_wp2_with fail
        refine bodyPost_ret (v := .agg #[.int .u64 (roundN ⟨a, b, c, d⟩ k).a, .int .u64 (roundN ⟨a, b, c, d⟩ k).b, .int .u64 (roundN ⟨a, b, c, d⟩ k).c, .int .u64 (roundN ⟨a, b, c, d⟩ k).d]) (by simp [results, Tryz.results50, go_sem, c0, c1, c2, c3]) rfl ⟨rfl, ?_⟩
        exact (((HB.out.setCell (by simp) _).setCell (by simp) _).setCell (by simp) _).setCell (by simp) _
end Go.Proofs.YtdfgegicfhcmeaaGreatDoor
