import Derived.Test.YteclineblddpbaaGreatDoorRC01
import Derived.WalkKit
import Derived.Laws.BitsAllLaws
set_option linter.all false
set_option maxRecDepth 100000
set_option maxHeartbeats 0
namespace Go.Proofs.YteclineblddpbaaGreatDoorR
section
open Go.RowKit
def sumTo (b : Nat -> Bool) : Nat -> Nat
 | 0=>0
 | k + 1=>sumTo b k + (if b k then 2 ^ k else 0)
theorem sumTo_lt (b : Nat -> Bool) : ∀ k,sumTo b k < 2 ^ k
 | 0=>Nat.lt_of_lt_of_le Nat.zero_lt_one (lQ _)
 | k + 1=>by
  have:=sumTo_lt b k
  rw [sumTo,Nat.pow_succ]
  split <;> omega
theorem sumTo_bit (b : Nat -> Bool) : ∀ k i,i < k -> (sumTo b k).testBit i = b i
 | k + 1,i,h=>by
  have hlt:=sumTo_lt b k
  rw [sumTo]
  by_cases he : i = k
  ·subst he
   cases hb : b i
   ·simp [Nat.testBit_lt_two_pow hlt]
   ·rw [if_pos rfl,Nat.add_comm,Nat.testBit_two_pow_add_eq,Nat.testBit_lt_two_pow hlt]; rfl
  ·have ih:=sumTo_bit b k i (by omega)
   cases hb : b k
   ·simpa using ih
   ·rw [if_pos rfl,Nat.add_comm,Nat.testBit_two_pow_add_gt (by omega),ih]
theorem and_pow (n i : Nat) : n &&& 2 ^ i = if n.testBit i then 2 ^ i else 0:=by
 apply Nat.eq_of_testBit_eq
 intro j
 rw [Nat.testBit_and,Nat.testBit_two_pow]
 by_cases h : i = j
 ·subst h; cases n.testBit i <;> simp
 ·simp [h]; split
  ·rw [Nat.testBit_two_pow]; simp [h]
  ·simp
theorem and_u16_nat (a b : Nat) (ha : a < 65536) (hb : b < 65536) : bits BinOp.and IntKind.u16 (a : Int) (b : Int) = ((a &&& b : Nat) : Int):=by
 have h : a &&& b < 65536:=Nat.lt_of_le_of_lt Nat.and_le_left ha
 show IntKind.u16.wrap (((BitVec.ofInt 16 (a : Int) &&& BitVec.ofInt 16 (b : Int)).toNat : Nat) : Int) = _
 rw [BitVec.ofInt_natCast,BitVec.ofInt_natCast,BitVec.toNat_and,BitVec.toNat_ofNat,BitVec.toNat_ofNat,Nat.mod_eq_of_lt (by omega),Nat.mod_eq_of_lt (by omega)]
 generalize a &&& b = c at h
 simp [IntKind.wrap,IntKind.bits,IntKind.signed]; omega
theorem and_bit_ne (n i : Nat) (hn : n < 65536) (hi : i < 16) : (bits BinOp.and IntKind.u16 (n : Int) ((2 ^ i : Nat) : Int) != 0) = n.testBit i:=by
 have h2 : 2 ^ i < 2 ^ 16:=Nat.pow_lt_pow_right (by omega) hi
 have h3 : 0 < 2 ^ i:=Nat.pow_pos (by omega)
 rw [and_u16_nat _ _ hn h2,and_pow]
 generalize 2 ^ i = q at h3
 cases n.testBit i
 ·rfl
 ·simp; omega
end
end Go.Proofs.YteclineblddpbaaGreatDoorR
