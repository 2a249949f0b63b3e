import Derived.Test.YtedaafmfjhjfmaaGreatDoorMg29
/- Law 29's giveMsg. -/
namespace Go.Proofs.YtedaafmfjhjfmaaGreatDoor
open Go.RowKit
set_option linter.unusedSimpArgs false
set_option linter.unusedVariables false
def gvF (m:MgR):Nat→S
 |0=>⟨[(2,.x (.a (.p 1 0))),(4,.x (.a (.v (vU8 m.k)))),(6,.x (.a (.v (.int .i64 m.pl)))),(8,.x (.a (.v (.int .i64 m.ot)))),(10,.x (.a (.v (.int .i64 m.cl)))),(12,.x (.a (.v (.int .i64 m.ge)))),(14,.x (.a (.v (vU64 m.nu)))),(16,.x (.a8 m.sm)),(19,.x (.a (.v m.ids.val))),(23,.x (.a (.v m.ns.val))),(26,.x (.a (.v m.ps.val))),(30,.x (.a (.v m.xs.val))),(33,.x (.a (.v (.int .i64 m.re))))],[.blk 52 (.c (mgA m)),.blk 48 (.c (mgA zeroR))]⟩
 |1=>⟨[(2,.x (.a (.p 1 0))),(4,.x (.a (.v (vU8 m.k)))),(6,.x (.a (.v (.int .i64 m.pl)))),(8,.x (.a (.v (.int .i64 m.ot)))),(10,.x (.a (.v (.int .i64 m.cl)))),(12,.x (.a (.v (.int .i64 m.ge)))),(14,.x (.a (.v (vU64 m.nu)))),(16,.x (.a8 m.sm)),(19,.x (.a (.v m.ids.val))),(23,.x (.a (.v m.ns.val))),(26,.x (.a (.v m.ps.val))),(30,.x (.a (.v m.xs.val))),(33,.x (.a (.v (.int .i64 m.re)))),(17,.x (.a (.s 2 0 0 0)))],[.blk 52 (.c (mgA m)),.blk 48 (.c (mgA zeroR)),.blk 3 (.i64 [])]⟩
 |2=>⟨[(2,.x (.a (.p 1 0))),(4,.x (.a (.v (vU8 m.k)))),(6,.x (.a (.v (.int .i64 m.pl)))),(8,.x (.a (.v (.int .i64 m.ot)))),(10,.x (.a (.v (.int .i64 m.cl)))),(12,.x (.a (.v (.int .i64 m.ge)))),(14,.x (.a (.v (vU64 m.nu)))),(16,.x (.a8 m.sm)),(19,.x (.a (.v m.ids.val))),(23,.x (.a (.v m.ns.val))),(26,.x (.a (.v m.ps.val))),(30,.x (.a (.v m.xs.val))),(33,.x (.a (.v (.int .i64 m.re)))),(21,.x (.a (.s 2 0 0 0)))],[.blk 52 (.c (mgA m)),.blk 48 (.c (mgA zeroR)),.blk 41 (.u64 [])]⟩
 |3=>⟨[(2,.x (.a (.p 1 0))),(4,.x (.a (.v (vU8 m.k)))),(6,.x (.a (.v (.int .i64 m.pl)))),(8,.x (.a (.v (.int .i64 m.ot)))),(10,.x (.a (.v (.int .i64 m.cl)))),(12,.x (.a (.v (.int .i64 m.ge)))),(14,.x (.a (.v (vU64 m.nu)))),(16,.x (.a8 m.sm)),(19,.x (.a (.v m.ids.val))),(23,.x (.a (.v m.ns.val))),(26,.x (.a (.v m.ps.val))),(30,.x (.a (.v m.xs.val))),(33,.x (.a (.v (.int .i64 m.re)))),(28,.x (.a (.s 2 0 0 0)))],[.blk 52 (.c (mgA m)),.blk 48 (.c (mgA zeroR)),.blk 111 (.u32 [])]⟩
 |4=>⟨[(2,.x (.a (.p 1 0))),(4,.x (.a (.v (vU8 m.k)))),(6,.x (.a (.v (.int .i64 m.pl)))),(8,.x (.a (.v (.int .i64 m.ot)))),(10,.x (.a (.v (.int .i64 m.cl)))),(12,.x (.a (.v (.int .i64 m.ge)))),(14,.x (.a (.v (vU64 m.nu)))),(16,.x (.a8 m.sm)),(19,.x (.a (.v m.ids.val))),(23,.x (.a (.v m.ns.val))),(26,.x (.a (.v m.ps.val))),(30,.x (.a (.v m.xs.val))),(33,.x (.a (.v (.int .i64 m.re)))),(20,.x (.a (.o 2)))],[.blk 52 (.c (mgA m)),.blk 48 (.c (mgA zeroR)),.own 3 (.i64 m.ids.l)]⟩
 |5=>⟨[(2,.x (.a (.p 1 0))),(4,.x (.a (.v (vU8 m.k)))),(6,.x (.a (.v (.int .i64 m.pl)))),(8,.x (.a (.v (.int .i64 m.ot)))),(10,.x (.a (.v (.int .i64 m.cl)))),(12,.x (.a (.v (.int .i64 m.ge)))),(14,.x (.a (.v (vU64 m.nu)))),(16,.x (.a8 m.sm)),(19,.x (.a (.v m.ids.val))),(23,.x (.a (.v m.ns.val))),(26,.x (.a (.v m.ps.val))),(30,.x (.a (.v m.xs.val))),(33,.x (.a (.v (.int .i64 m.re)))),(17,.x (.a (.s 2 0 0 0))),(21,.x (.a (.s 3 0 0 0)))],[.blk 52 (.c (mgA m)),.blk 48 (.c (mgA zeroR)),.blk 3 (.i64 []),.blk 41 (.u64 [])]⟩
 |6=>⟨[(2,.x (.a (.p 1 0))),(4,.x (.a (.v (vU8 m.k)))),(6,.x (.a (.v (.int .i64 m.pl)))),(8,.x (.a (.v (.int .i64 m.ot)))),(10,.x (.a (.v (.int .i64 m.cl)))),(12,.x (.a (.v (.int .i64 m.ge)))),(14,.x (.a (.v (vU64 m.nu)))),(16,.x (.a8 m.sm)),(19,.x (.a (.v m.ids.val))),(23,.x (.a (.v m.ns.val))),(26,.x (.a (.v m.ps.val))),(30,.x (.a (.v m.xs.val))),(33,.x (.a (.v (.int .i64 m.re)))),(17,.x (.a (.s 2 0 0 0))),(28,.x (.a (.s 3 0 0 0)))],[.blk 52 (.c (mgA m)),.blk 48 (.c (mgA zeroR)),.blk 3 (.i64 []),.blk 111 (.u32 [])]⟩
 |7=>⟨[(2,.x (.a (.p 1 0))),(4,.x (.a (.v (vU8 m.k)))),(6,.x (.a (.v (.int .i64 m.pl)))),(8,.x (.a (.v (.int .i64 m.ot)))),(10,.x (.a (.v (.int .i64 m.cl)))),(12,.x (.a (.v (.int .i64 m.ge)))),(14,.x (.a (.v (vU64 m.nu)))),(16,.x (.a8 m.sm)),(19,.x (.a (.v m.ids.val))),(23,.x (.a (.v m.ns.val))),(26,.x (.a (.v m.ps.val))),(30,.x (.a (.v m.xs.val))),(33,.x (.a (.v (.int .i64 m.re)))),(21,.x (.a (.s 2 0 0 0))),(28,.x (.a (.s 3 0 0 0)))],[.blk 52 (.c (mgA m)),.blk 48 (.c (mgA zeroR)),.blk 41 (.u64 []),.blk 111 (.u32 [])]⟩
 |8=>⟨[(2,.x (.a (.p 1 0))),(4,.x (.a (.v (vU8 m.k)))),(6,.x (.a (.v (.int .i64 m.pl)))),(8,.x (.a (.v (.int .i64 m.ot)))),(10,.x (.a (.v (.int .i64 m.cl)))),(12,.x (.a (.v (.int .i64 m.ge)))),(14,.x (.a (.v (vU64 m.nu)))),(16,.x (.a8 m.sm)),(19,.x (.a (.v m.ids.val))),(23,.x (.a (.v m.ns.val))),(26,.x (.a (.v m.ps.val))),(30,.x (.a (.v m.xs.val))),(33,.x (.a (.v (.int .i64 m.re)))),(20,.x (.a (.o 2))),(21,.x (.a (.s 3 0 0 0)))],[.blk 52 (.c (mgA m)),.blk 48 (.c (mgA zeroR)),.own 3 (.i64 m.ids.l),.blk 41 (.u64 [])]⟩
 |9=>⟨[(2,.x (.a (.p 1 0))),(4,.x (.a (.v (vU8 m.k)))),(6,.x (.a (.v (.int .i64 m.pl)))),(8,.x (.a (.v (.int .i64 m.ot)))),(10,.x (.a (.v (.int .i64 m.cl)))),(12,.x (.a (.v (.int .i64 m.ge)))),(14,.x (.a (.v (vU64 m.nu)))),(16,.x (.a8 m.sm)),(19,.x (.a (.v m.ids.val))),(23,.x (.a (.v m.ns.val))),(26,.x (.a (.v m.ps.val))),(30,.x (.a (.v m.xs.val))),(33,.x (.a (.v (.int .i64 m.re)))),(20,.x (.a (.o 2))),(28,.x (.a (.s 3 0 0 0)))],[.blk 52 (.c (mgA m)),.blk 48 (.c (mgA zeroR)),.own 3 (.i64 m.ids.l),.blk 111 (.u32 [])]⟩
 |10=>⟨[(2,.x (.a (.p 1 0))),(4,.x (.a (.v (vU8 m.k)))),(6,.x (.a (.v (.int .i64 m.pl)))),(8,.x (.a (.v (.int .i64 m.ot)))),(10,.x (.a (.v (.int .i64 m.cl)))),(12,.x (.a (.v (.int .i64 m.ge)))),(14,.x (.a (.v (vU64 m.nu)))),(16,.x (.a8 m.sm)),(19,.x (.a (.v m.ids.val))),(23,.x (.a (.v m.ns.val))),(26,.x (.a (.v m.ps.val))),(30,.x (.a (.v m.xs.val))),(33,.x (.a (.v (.int .i64 m.re)))),(17,.x (.a (.s 2 0 0 0))),(21,.x (.a (.s 3 0 0 0))),(28,.x (.a (.s 4 0 0 0)))],[.blk 52 (.c (mgA m)),.blk 48 (.c (mgA zeroR)),.blk 3 (.i64 []),.blk 41 (.u64 []),.blk 111 (.u32 [])]⟩
 |11=>⟨[(2,.x (.a (.p 1 0))),(4,.x (.a (.v (vU8 m.k)))),(6,.x (.a (.v (.int .i64 m.pl)))),(8,.x (.a (.v (.int .i64 m.ot)))),(10,.x (.a (.v (.int .i64 m.cl)))),(12,.x (.a (.v (.int .i64 m.ge)))),(14,.x (.a (.v (vU64 m.nu)))),(16,.x (.a8 m.sm)),(19,.x (.a (.v m.ids.val))),(23,.x (.a (.v m.ns.val))),(26,.x (.a (.v m.ps.val))),(30,.x (.a (.v m.xs.val))),(33,.x (.a (.v (.int .i64 m.re)))),(20,.x (.a (.o 2))),(24,.x (.a (.o 3)))],[.blk 52 (.c (mgA m)),.blk 48 (.c (mgA zeroR)),.own 3 (.i64 m.ids.l),.own 41 (.u64 m.ns.l)]⟩
 |12=>⟨[(2,.x (.a (.p 1 0))),(4,.x (.a (.v (vU8 m.k)))),(6,.x (.a (.v (.int .i64 m.pl)))),(8,.x (.a (.v (.int .i64 m.ot)))),(10,.x (.a (.v (.int .i64 m.cl)))),(12,.x (.a (.v (.int .i64 m.ge)))),(14,.x (.a (.v (vU64 m.nu)))),(16,.x (.a8 m.sm)),(19,.x (.a (.v m.ids.val))),(23,.x (.a (.v m.ns.val))),(26,.x (.a (.v m.ps.val))),(30,.x (.a (.v m.xs.val))),(33,.x (.a (.v (.int .i64 m.re)))),(20,.x (.a (.o 2))),(21,.x (.a (.s 3 0 0 0))),(28,.x (.a (.s 4 0 0 0)))],[.blk 52 (.c (mgA m)),.blk 48 (.c (mgA zeroR)),.own 3 (.i64 m.ids.l),.blk 41 (.u64 []),.blk 111 (.u32 [])]⟩
 |13=>⟨[(2,.x (.a (.p 1 0))),(4,.x (.a (.v (vU8 m.k)))),(6,.x (.a (.v (.int .i64 m.pl)))),(8,.x (.a (.v (.int .i64 m.ot)))),(10,.x (.a (.v (.int .i64 m.cl)))),(12,.x (.a (.v (.int .i64 m.ge)))),(14,.x (.a (.v (vU64 m.nu)))),(16,.x (.a8 m.sm)),(19,.x (.a (.v m.ids.val))),(23,.x (.a (.v m.ns.val))),(26,.x (.a (.v m.ps.val))),(30,.x (.a (.v m.xs.val))),(33,.x (.a (.v (.int .i64 m.re)))),(20,.x (.a (.o 2))),(24,.x (.a (.o 3))),(27,.x (.a (.o 4)))],[.blk 52 (.c (mgA m)),.blk 48 (.c (mgA zeroR)),.own 3 (.i64 m.ids.l),.own 41 (.u64 m.ns.l),.onn 115 2 (.c (pcs m.ps.l))]⟩
 |14=>⟨[(2,.x (.a (.p 1 0))),(4,.x (.a (.v (vU8 m.k)))),(6,.x (.a (.v (.int .i64 m.pl)))),(8,.x (.a (.v (.int .i64 m.ot)))),(10,.x (.a (.v (.int .i64 m.cl)))),(12,.x (.a (.v (.int .i64 m.ge)))),(14,.x (.a (.v (vU64 m.nu)))),(16,.x (.a8 m.sm)),(19,.x (.a (.v m.ids.val))),(23,.x (.a (.v m.ns.val))),(26,.x (.a (.v m.ps.val))),(30,.x (.a (.v m.xs.val))),(33,.x (.a (.v (.int .i64 m.re)))),(20,.x (.a (.o 2))),(24,.x (.a (.o 3))),(28,.x (.a (.s 4 0 0 0)))],[.blk 52 (.c (mgA m)),.blk 48 (.c (mgA zeroR)),.own 3 (.i64 m.ids.l),.own 41 (.u64 m.ns.l),.blk 111 (.u32 [])]⟩
 |15=>⟨[(2,.x (.a (.p 1 0))),(4,.x (.a (.v (vU8 m.k)))),(6,.x (.a (.v (.int .i64 m.pl)))),(8,.x (.a (.v (.int .i64 m.ot)))),(10,.x (.a (.v (.int .i64 m.cl)))),(12,.x (.a (.v (.int .i64 m.ge)))),(14,.x (.a (.v (vU64 m.nu)))),(16,.x (.a8 m.sm)),(19,.x (.a (.v m.ids.val))),(23,.x (.a (.v m.ns.val))),(26,.x (.a (.v m.ps.val))),(30,.x (.a (.v m.xs.val))),(33,.x (.a (.v (.int .i64 m.re)))),(20,.x (.a (.o 2))),(24,.x (.a (.o 3))),(27,.x (.a (.o 4))),(28,.x (.a (.s 5 0 0 0)))],[.blk 52 (.c (mgA m)),.blk 48 (.c (mgA zeroR)),.own 3 (.i64 m.ids.l),.own 41 (.u64 m.ns.l),.onn 115 2 (.c (pcs m.ps.l)),.blk 111 (.u32 [])]⟩
 |16=>⟨[(2,.x (.a (.p 1 0))),(4,.x (.a (.v (vU8 m.k)))),(6,.x (.a (.v (.int .i64 m.pl)))),(8,.x (.a (.v (.int .i64 m.ot)))),(10,.x (.a (.v (.int .i64 m.cl)))),(12,.x (.a (.v (.int .i64 m.ge)))),(14,.x (.a (.v (vU64 m.nu)))),(16,.x (.a8 m.sm)),(19,.x (.a (.v m.ids.val))),(23,.x (.a (.v m.ns.val))),(26,.x (.a (.v m.ps.val))),(30,.x (.a (.v m.xs.val))),(33,.x (.a (.v (.int .i64 m.re)))),(20,.x (.a (.o 2))),(24,.x (.a (.o 3))),(27,.x (.a (.o 4))),(31,.x (.a (.o 5)))],[.blk 52 (.c (mgA m)),.blk 48 (.c (mgA zeroR)),.own 3 (.i64 m.ids.l),.own 41 (.u64 m.ns.l),.onn 115 2 (.c (pcs m.ps.l)),.own 111 (.u32 m.xs.l)]⟩
 |_=>⟨[],[]⟩
def gvD:Dag:=[([true,true,true,true,true,true,true,true,true,true,true,true,true,true,false,true,true,false,false,true,true,false,true,true,false,false,true,true,false,true,true,false,false],[(14,1),(18,2),(25,3)]),
 ([true,true,true,true,true,true,true,true,true,true,true,true,true,true,true,true,true,false,false,true,true,false,true,true,false,false,true,true,false,true,true,false,false],[(17,4),(18,5),(25,6)]),
 ([true,true,true,true,true,true,true,true,true,true,true,true,true,true,false,true,true,false,true,true,true,false,true,true,false,false,true,true,false,true,true,false,false],[(14,5),(25,7)]),
 ([true,true,true,true,true,true,true,true,true,true,true,true,true,true,false,true,true,false,false,true,true,false,true,true,false,true,true,true,false,true,true,false,false],[(14,6),(18,7)]),
 ([true,true,true,true,true,true,true,true,true,true,true,true,true,true,true,true,true,true,false,true,true,false,true,true,false,false,true,true,false,true,true,false,false],[(18,8),(25,9)]),
 ([true,true,true,true,true,true,true,true,true,true,true,true,true,true,true,true,true,false,true,true,true,false,true,true,false,false,true,true,false,true,true,false,false],[(17,8),(25,10)]),
 ([true,true,true,true,true,true,true,true,true,true,true,true,true,true,true,true,true,false,false,true,true,false,true,true,false,true,true,true,false,true,true,false,false],[(17,9),(18,10)]),
 ([true,true,true,true,true,true,true,true,true,true,true,true,true,true,false,true,true,false,true,true,true,false,true,true,false,true,true,true,false,true,true,false,false],[(14,10)]),
 ([true,true,true,true,true,true,true,true,true,true,true,true,true,true,true,true,true,true,true,true,true,false,true,true,false,false,true,true,false,true,true,false,false],[(21,11),(25,12)]),
 ([true,true,true,true,true,true,true,true,true,true,true,true,true,true,true,true,true,true,false,true,true,false,true,true,false,true,true,true,false,true,true,false,false],[(18,12)]),
 ([true,true,true,true,true,true,true,true,true,true,true,true,true,true,true,true,true,false,true,true,true,false,true,true,false,true,true,true,false,true,true,false,false],[(17,12)]),
 ([true,true,true,true,true,true,true,true,true,true,true,true,true,true,true,true,true,true,true,true,true,true,true,true,false,false,true,true,false,true,true,false,false],[(24,13),(25,14)]),
 ([true,true,true,true,true,true,true,true,true,true,true,true,true,true,true,true,true,true,true,true,true,false,true,true,false,true,true,true,false,true,true,false,false],[(21,14)]),
 ([true,true,true,true,true,true,true,true,true,true,true,true,true,true,true,true,true,true,true,true,true,true,true,true,true,false,true,true,false,true,true,false,false],[(25,15)]),
 ([true,true,true,true,true,true,true,true,true,true,true,true,true,true,true,true,true,true,true,true,true,true,true,true,false,true,true,true,false,true,true,false,false],[(24,15)]),
 ([true,true,true,true,true,true,true,true,true,true,true,true,true,true,true,true,true,true,true,true,true,true,true,true,true,true,true,true,false,true,true,false,false],[(28,16)]),
 ([true,true,true,true,true,true,true,true,true,true,true,true,true,true,true,true,true,true,true,true,true,true,true,true,true,true,true,true,true,true,true,false,false],[])]
theorem M6 (m:MgR):gvF m 0=⟨[(2,.x (.a (.p 1 0))),(4,.x (.a (.v (vU8 m.k)))),(6,.x (.a (.v (.int .i64 m.pl)))),(8,.x (.a (.v (.int .i64 m.ot)))),(10,.x (.a (.v (.int .i64 m.cl)))),(12,.x (.a (.v (.int .i64 m.ge)))),(14,.x (.a (.v (vU64 m.nu)))),(16,.x (.a8 m.sm)),(19,.x (.a (.v m.ids.val))),(23,.x (.a (.v m.ns.val))),(26,.x (.a (.v m.ps.val))),(30,.x (.a (.v m.xs.val))),(33,.x (.a (.v (.int .i64 m.re))))],[.blk 52 (.c (mgA m)),.blk 48 (.c (mgA zeroR))]⟩:=rfl
theorem M7 (m:MgR):gvF m 1=⟨[(2,.x (.a (.p 1 0))),(4,.x (.a (.v (vU8 m.k)))),(6,.x (.a (.v (.int .i64 m.pl)))),(8,.x (.a (.v (.int .i64 m.ot)))),(10,.x (.a (.v (.int .i64 m.cl)))),(12,.x (.a (.v (.int .i64 m.ge)))),(14,.x (.a (.v (vU64 m.nu)))),(16,.x (.a8 m.sm)),(19,.x (.a (.v m.ids.val))),(23,.x (.a (.v m.ns.val))),(26,.x (.a (.v m.ps.val))),(30,.x (.a (.v m.xs.val))),(33,.x (.a (.v (.int .i64 m.re)))),(17,.x (.a (.s 2 0 0 0)))],[.blk 52 (.c (mgA m)),.blk 48 (.c (mgA zeroR)),.blk 3 (.i64 [])]⟩:=rfl
theorem Rc (m:MgR):gvF m 2=⟨[(2,.x (.a (.p 1 0))),(4,.x (.a (.v (vU8 m.k)))),(6,.x (.a (.v (.int .i64 m.pl)))),(8,.x (.a (.v (.int .i64 m.ot)))),(10,.x (.a (.v (.int .i64 m.cl)))),(12,.x (.a (.v (.int .i64 m.ge)))),(14,.x (.a (.v (vU64 m.nu)))),(16,.x (.a8 m.sm)),(19,.x (.a (.v m.ids.val))),(23,.x (.a (.v m.ns.val))),(26,.x (.a (.v m.ps.val))),(30,.x (.a (.v m.xs.val))),(33,.x (.a (.v (.int .i64 m.re)))),(21,.x (.a (.s 2 0 0 0)))],[.blk 52 (.c (mgA m)),.blk 48 (.c (mgA zeroR)),.blk 41 (.u64 [])]⟩:=rfl
theorem Rd (m:MgR):gvF m 3=⟨[(2,.x (.a (.p 1 0))),(4,.x (.a (.v (vU8 m.k)))),(6,.x (.a (.v (.int .i64 m.pl)))),(8,.x (.a (.v (.int .i64 m.ot)))),(10,.x (.a (.v (.int .i64 m.cl)))),(12,.x (.a (.v (.int .i64 m.ge)))),(14,.x (.a (.v (vU64 m.nu)))),(16,.x (.a8 m.sm)),(19,.x (.a (.v m.ids.val))),(23,.x (.a (.v m.ns.val))),(26,.x (.a (.v m.ps.val))),(30,.x (.a (.v m.xs.val))),(33,.x (.a (.v (.int .i64 m.re)))),(28,.x (.a (.s 2 0 0 0)))],[.blk 52 (.c (mgA m)),.blk 48 (.c (mgA zeroR)),.blk 111 (.u32 [])]⟩:=rfl
theorem Re (m:MgR):gvF m 4=⟨[(2,.x (.a (.p 1 0))),(4,.x (.a (.v (vU8 m.k)))),(6,.x (.a (.v (.int .i64 m.pl)))),(8,.x (.a (.v (.int .i64 m.ot)))),(10,.x (.a (.v (.int .i64 m.cl)))),(12,.x (.a (.v (.int .i64 m.ge)))),(14,.x (.a (.v (vU64 m.nu)))),(16,.x (.a8 m.sm)),(19,.x (.a (.v m.ids.val))),(23,.x (.a (.v m.ns.val))),(26,.x (.a (.v m.ps.val))),(30,.x (.a (.v m.xs.val))),(33,.x (.a (.v (.int .i64 m.re)))),(20,.x (.a (.o 2)))],[.blk 52 (.c (mgA m)),.blk 48 (.c (mgA zeroR)),.own 3 (.i64 m.ids.l)]⟩:=rfl
theorem M8 (m:MgR):gvF m 5=⟨[(2,.x (.a (.p 1 0))),(4,.x (.a (.v (vU8 m.k)))),(6,.x (.a (.v (.int .i64 m.pl)))),(8,.x (.a (.v (.int .i64 m.ot)))),(10,.x (.a (.v (.int .i64 m.cl)))),(12,.x (.a (.v (.int .i64 m.ge)))),(14,.x (.a (.v (vU64 m.nu)))),(16,.x (.a8 m.sm)),(19,.x (.a (.v m.ids.val))),(23,.x (.a (.v m.ns.val))),(26,.x (.a (.v m.ps.val))),(30,.x (.a (.v m.xs.val))),(33,.x (.a (.v (.int .i64 m.re)))),(17,.x (.a (.s 2 0 0 0))),(21,.x (.a (.s 3 0 0 0)))],[.blk 52 (.c (mgA m)),.blk 48 (.c (mgA zeroR)),.blk 3 (.i64 []),.blk 41 (.u64 [])]⟩:=rfl
theorem M9 (m:MgR):gvF m 6=⟨[(2,.x (.a (.p 1 0))),(4,.x (.a (.v (vU8 m.k)))),(6,.x (.a (.v (.int .i64 m.pl)))),(8,.x (.a (.v (.int .i64 m.ot)))),(10,.x (.a (.v (.int .i64 m.cl)))),(12,.x (.a (.v (.int .i64 m.ge)))),(14,.x (.a (.v (vU64 m.nu)))),(16,.x (.a8 m.sm)),(19,.x (.a (.v m.ids.val))),(23,.x (.a (.v m.ns.val))),(26,.x (.a (.v m.ps.val))),(30,.x (.a (.v m.xs.val))),(33,.x (.a (.v (.int .i64 m.re)))),(17,.x (.a (.s 2 0 0 0))),(28,.x (.a (.s 3 0 0 0)))],[.blk 52 (.c (mgA m)),.blk 48 (.c (mgA zeroR)),.blk 3 (.i64 []),.blk 111 (.u32 [])]⟩:=rfl
theorem Rf (m:MgR):gvF m 7=⟨[(2,.x (.a (.p 1 0))),(4,.x (.a (.v (vU8 m.k)))),(6,.x (.a (.v (.int .i64 m.pl)))),(8,.x (.a (.v (.int .i64 m.ot)))),(10,.x (.a (.v (.int .i64 m.cl)))),(12,.x (.a (.v (.int .i64 m.ge)))),(14,.x (.a (.v (vU64 m.nu)))),(16,.x (.a8 m.sm)),(19,.x (.a (.v m.ids.val))),(23,.x (.a (.v m.ns.val))),(26,.x (.a (.v m.ps.val))),(30,.x (.a (.v m.xs.val))),(33,.x (.a (.v (.int .i64 m.re)))),(21,.x (.a (.s 2 0 0 0))),(28,.x (.a (.s 3 0 0 0)))],[.blk 52 (.c (mgA m)),.blk 48 (.c (mgA zeroR)),.blk 41 (.u64 []),.blk 111 (.u32 [])]⟩:=rfl
theorem Na (m:MgR):gvF m 8=⟨[(2,.x (.a (.p 1 0))),(4,.x (.a (.v (vU8 m.k)))),(6,.x (.a (.v (.int .i64 m.pl)))),(8,.x (.a (.v (.int .i64 m.ot)))),(10,.x (.a (.v (.int .i64 m.cl)))),(12,.x (.a (.v (.int .i64 m.ge)))),(14,.x (.a (.v (vU64 m.nu)))),(16,.x (.a8 m.sm)),(19,.x (.a (.v m.ids.val))),(23,.x (.a (.v m.ns.val))),(26,.x (.a (.v m.ps.val))),(30,.x (.a (.v m.xs.val))),(33,.x (.a (.v (.int .i64 m.re)))),(20,.x (.a (.o 2))),(21,.x (.a (.s 3 0 0 0)))],[.blk 52 (.c (mgA m)),.blk 48 (.c (mgA zeroR)),.own 3 (.i64 m.ids.l),.blk 41 (.u64 [])]⟩:=rfl
theorem Rg (m:MgR):gvF m 9=⟨[(2,.x (.a (.p 1 0))),(4,.x (.a (.v (vU8 m.k)))),(6,.x (.a (.v (.int .i64 m.pl)))),(8,.x (.a (.v (.int .i64 m.ot)))),(10,.x (.a (.v (.int .i64 m.cl)))),(12,.x (.a (.v (.int .i64 m.ge)))),(14,.x (.a (.v (vU64 m.nu)))),(16,.x (.a8 m.sm)),(19,.x (.a (.v m.ids.val))),(23,.x (.a (.v m.ns.val))),(26,.x (.a (.v m.ps.val))),(30,.x (.a (.v m.xs.val))),(33,.x (.a (.v (.int .i64 m.re)))),(20,.x (.a (.o 2))),(28,.x (.a (.s 3 0 0 0)))],[.blk 52 (.c (mgA m)),.blk 48 (.c (mgA zeroR)),.own 3 (.i64 m.ids.l),.blk 111 (.u32 [])]⟩:=rfl
theorem Nb (m:MgR):gvF m 10=⟨[(2,.x (.a (.p 1 0))),(4,.x (.a (.v (vU8 m.k)))),(6,.x (.a (.v (.int .i64 m.pl)))),(8,.x (.a (.v (.int .i64 m.ot)))),(10,.x (.a (.v (.int .i64 m.cl)))),(12,.x (.a (.v (.int .i64 m.ge)))),(14,.x (.a (.v (vU64 m.nu)))),(16,.x (.a8 m.sm)),(19,.x (.a (.v m.ids.val))),(23,.x (.a (.v m.ns.val))),(26,.x (.a (.v m.ps.val))),(30,.x (.a (.v m.xs.val))),(33,.x (.a (.v (.int .i64 m.re)))),(17,.x (.a (.s 2 0 0 0))),(21,.x (.a (.s 3 0 0 0))),(28,.x (.a (.s 4 0 0 0)))],[.blk 52 (.c (mgA m)),.blk 48 (.c (mgA zeroR)),.blk 3 (.i64 []),.blk 41 (.u64 []),.blk 111 (.u32 [])]⟩:=rfl
theorem Rh (m:MgR):gvF m 11=⟨[(2,.x (.a (.p 1 0))),(4,.x (.a (.v (vU8 m.k)))),(6,.x (.a (.v (.int .i64 m.pl)))),(8,.x (.a (.v (.int .i64 m.ot)))),(10,.x (.a (.v (.int .i64 m.cl)))),(12,.x (.a (.v (.int .i64 m.ge)))),(14,.x (.a (.v (vU64 m.nu)))),(16,.x (.a8 m.sm)),(19,.x (.a (.v m.ids.val))),(23,.x (.a (.v m.ns.val))),(26,.x (.a (.v m.ps.val))),(30,.x (.a (.v m.xs.val))),(33,.x (.a (.v (.int .i64 m.re)))),(20,.x (.a (.o 2))),(24,.x (.a (.o 3)))],[.blk 52 (.c (mgA m)),.blk 48 (.c (mgA zeroR)),.own 3 (.i64 m.ids.l),.own 41 (.u64 m.ns.l)]⟩:=rfl
theorem Nc (m:MgR):gvF m 12=⟨[(2,.x (.a (.p 1 0))),(4,.x (.a (.v (vU8 m.k)))),(6,.x (.a (.v (.int .i64 m.pl)))),(8,.x (.a (.v (.int .i64 m.ot)))),(10,.x (.a (.v (.int .i64 m.cl)))),(12,.x (.a (.v (.int .i64 m.ge)))),(14,.x (.a (.v (vU64 m.nu)))),(16,.x (.a8 m.sm)),(19,.x (.a (.v m.ids.val))),(23,.x (.a (.v m.ns.val))),(26,.x (.a (.v m.ps.val))),(30,.x (.a (.v m.xs.val))),(33,.x (.a (.v (.int .i64 m.re)))),(20,.x (.a (.o 2))),(21,.x (.a (.s 3 0 0 0))),(28,.x (.a (.s 4 0 0 0)))],[.blk 52 (.c (mgA m)),.blk 48 (.c (mgA zeroR)),.own 3 (.i64 m.ids.l),.blk 41 (.u64 []),.blk 111 (.u32 [])]⟩:=rfl
theorem U8 (m:MgR):gvF m 13=⟨[(2,.x (.a (.p 1 0))),(4,.x (.a (.v (vU8 m.k)))),(6,.x (.a (.v (.int .i64 m.pl)))),(8,.x (.a (.v (.int .i64 m.ot)))),(10,.x (.a (.v (.int .i64 m.cl)))),(12,.x (.a (.v (.int .i64 m.ge)))),(14,.x (.a (.v (vU64 m.nu)))),(16,.x (.a8 m.sm)),(19,.x (.a (.v m.ids.val))),(23,.x (.a (.v m.ns.val))),(26,.x (.a (.v m.ps.val))),(30,.x (.a (.v m.xs.val))),(33,.x (.a (.v (.int .i64 m.re)))),(20,.x (.a (.o 2))),(24,.x (.a (.o 3))),(27,.x (.a (.o 4)))],[.blk 52 (.c (mgA m)),.blk 48 (.c (mgA zeroR)),.own 3 (.i64 m.ids.l),.own 41 (.u64 m.ns.l),.onn 115 2 (.c (pcs m.ps.l))]⟩:=rfl
theorem Ri (m:MgR):gvF m 14=⟨[(2,.x (.a (.p 1 0))),(4,.x (.a (.v (vU8 m.k)))),(6,.x (.a (.v (.int .i64 m.pl)))),(8,.x (.a (.v (.int .i64 m.ot)))),(10,.x (.a (.v (.int .i64 m.cl)))),(12,.x (.a (.v (.int .i64 m.ge)))),(14,.x (.a (.v (vU64 m.nu)))),(16,.x (.a8 m.sm)),(19,.x (.a (.v m.ids.val))),(23,.x (.a (.v m.ns.val))),(26,.x (.a (.v m.ps.val))),(30,.x (.a (.v m.xs.val))),(33,.x (.a (.v (.int .i64 m.re)))),(20,.x (.a (.o 2))),(24,.x (.a (.o 3))),(28,.x (.a (.s 4 0 0 0)))],[.blk 52 (.c (mgA m)),.blk 48 (.c (mgA zeroR)),.own 3 (.i64 m.ids.l),.own 41 (.u64 m.ns.l),.blk 111 (.u32 [])]⟩:=rfl
theorem Rj (m:MgR):gvF m 15=⟨[(2,.x (.a (.p 1 0))),(4,.x (.a (.v (vU8 m.k)))),(6,.x (.a (.v (.int .i64 m.pl)))),(8,.x (.a (.v (.int .i64 m.ot)))),(10,.x (.a (.v (.int .i64 m.cl)))),(12,.x (.a (.v (.int .i64 m.ge)))),(14,.x (.a (.v (vU64 m.nu)))),(16,.x (.a8 m.sm)),(19,.x (.a (.v m.ids.val))),(23,.x (.a (.v m.ns.val))),(26,.x (.a (.v m.ps.val))),(30,.x (.a (.v m.xs.val))),(33,.x (.a (.v (.int .i64 m.re)))),(20,.x (.a (.o 2))),(24,.x (.a (.o 3))),(27,.x (.a (.o 4))),(28,.x (.a (.s 5 0 0 0)))],[.blk 52 (.c (mgA m)),.blk 48 (.c (mgA zeroR)),.own 3 (.i64 m.ids.l),.own 41 (.u64 m.ns.l),.onn 115 2 (.c (pcs m.ps.l)),.blk 111 (.u32 [])]⟩:=rfl
theorem U9 (m:MgR):gvF m 16=⟨[(2,.x (.a (.p 1 0))),(4,.x (.a (.v (vU8 m.k)))),(6,.x (.a (.v (.int .i64 m.pl)))),(8,.x (.a (.v (.int .i64 m.ot)))),(10,.x (.a (.v (.int .i64 m.cl)))),(12,.x (.a (.v (.int .i64 m.ge)))),(14,.x (.a (.v (vU64 m.nu)))),(16,.x (.a8 m.sm)),(19,.x (.a (.v m.ids.val))),(23,.x (.a (.v m.ns.val))),(26,.x (.a (.v m.ps.val))),(30,.x (.a (.v m.xs.val))),(33,.x (.a (.v (.int .i64 m.re)))),(20,.x (.a (.o 2))),(24,.x (.a (.o 3))),(27,.x (.a (.o 4))),(31,.x (.a (.o 5)))],[.blk 52 (.c (mgA m)),.blk 48 (.c (mgA zeroR)),.own 3 (.i64 m.ids.l),.own 41 (.u64 m.ns.l),.onn 115 2 (.c (pcs m.ps.l)),.own 111 (.u32 m.xs.l)]⟩:=rfl
def gv6 (m:MgR):List At:=mgL (.v (vU8 m.k)) (.v (.int .i64 m.pl)) (.v (.int .i64 m.ot)) (.v (.int .i64 m.cl)) (.v (.int .i64 m.ge)) (.v (vU64 m.nu)) (List.replicate 32 0) (.v (.slice none 0 0)) (.v (.slice none 0 0)) (.v (.slice none 0 0)) (.v (.slice none 0 0)) (.v (.int .i64 0))
def gv7 (m:MgR):List At:=mgL (.v (vU8 m.k)) (.v (.int .i64 m.pl)) (.v (.int .i64 m.ot)) (.v (.int .i64 m.cl)) (.v (.int .i64 m.ge)) (.v (vU64 m.nu)) m.sm (.v (.slice none 0 0)) (.v (.slice none 0 0)) (.v (.slice none 0 0)) (.v (.slice none 0 0)) (.v (.int .i64 0))
theorem A5d (m:MgR):((((((mgA zeroR).set 0 (.v (vU8 m.k))).set 1 (.v (.int .i64 m.pl))).set 2 (.v (.int .i64 m.ot))).set 3 (.v (.int .i64 m.cl))).set 4 (.v (.int .i64 m.ge))).set 5 (.v (vU64 m.nu))=gv6 m:=rfl
theorem A5e (m:MgR):List.take 6 (gv6 m)++(List.map f8 m.sm++List.drop 38 (gv6 m))=gv7 m:=rfl
theorem A5f (m:MgR):(gv6 m).length=43:=La rfl
theorem A5g {m:MgR} (h:m.sm.length=32):(gv7 m).length=43:=La h
theorem A5h {m:MgR} (h:m.sm.length=32) (a b c d:Nat):(((((gv7 m).set 38 (.o a)).set 39 (.o b)).set 40 (.o c)).set 41 (.o d)).set 42 (.v (.int .i64 m.re))=mgO m.mg a b c d:=by
 unfold gv7
 rw[(Hp _ _ _ _ _ _ _ _ _ _ _ _ _ h).2.2.2.2.2.2.1,(Hp _ _ _ _ _ _ _ _ _ _ _ _ _ h).2.2.2.2.2.2.2.1,(Hp _ _ _ _ _ _ _ _ _ _ _ _ _ h).2.2.2.2.2.2.2.2.1,(Hp _ _ _ _ _ _ _ _ _ _ _ _ _ h).2.2.2.2.2.2.2.2.2.1,(Hp _ _ _ _ _ _ _ _ _ _ _ _ _ h).2.2.2.2.2.2.2.2.2.2]
 rfl
attribute [local irreducible] Ad Ae Ah Ar Ak Am Ai Al
attribute [local irreducible] mgA mgO gvF gv6 gv7
section
set_option maxRecDepth 100000 in
set_option maxHeartbeats 4000000 in
theorem A5i (m:MgR) (w:World) (hm:m.Ok w):Calls Tryz.prog 25 (List.map (Sv.val []) [.x (.g (mgA m))]).toArray w fun e w'=>∃γ1,e=.returned ((Sv.x (.g (mgO m.mg 0 1 2 3))).val γ1)∧Sat w No γ1 [.own 3 (.i64 m.ids.l),.own 41 (.u64 m.ns.l),.onn 115 2 (.c (pcs m.ps.l)),.own 111 (.u32 m.xs.l)] w':=by
 obtain⟨f0,f1,f2,f3,f4,f5,f38,f39,f40,f41,f42⟩:=Dc hm.s
 have fl:=Bo hm.s
 have fs:=P7 hm.s
 have hfs:=hm.s
 have fb:=fun n=>Cs m n
 have zb:=fun n=>Cs zeroR n
 have ob:=fun (m:MgS) a b c d n=>A1j m a b c d n
 simp only[At.bnd] at fb zb ob
 obtain⟨i1,i2⟩:=Tg (FV.no hm.ids.rd)
 obtain⟨n1,n2⟩:=X1 (FV.no hm.ns.rd)
 obtain⟨x1,x2⟩:=X0 (FV.no hm.xs.rd)
 have:=hm.ids.few
 have:=hm.ns.few
 have:=hm.xs.few
 have hpf:=hm.ps.few
 have bi:m.ids.l.length*8≤140737488355328:=by omega
 have bn:m.ns.l.length*8≤140737488355328:=by omega
 have bx:m.xs.l.length*4≤140737488355328:=by omega
 have ci:m.ids.l.length≤2 ^ 63 - 1:=by omega
 have cn:m.ns.l.length≤2 ^ 63 - 1:=by omega
 have cx:m.xs.l.length≤2 ^ 63 - 1:=by omega
 refine Tr (n:=35) Tryz.func25 rfl Tryz.ntmps25 _ (Sat.init w No) (by simp) _ _ ?_
 simp (maxSteps:=10^6) only[fb,↓A9,B6,Cq,B9,push_cast,↓reduceIte,Nat.reduceLT,Nat.reduceAdd]
 (repeat (refine And.intro (by first|omega|decide) ?_))
 refine A4z 32 [0,1,2,3,4,5,6,7,8,9,10,11,12,13,15,16,19,20,22,23,26,27,29,30] gvD 16 [31] (gvF m) ⟨[(2,.x (.a (.p 1 0))),(34,.x (.g (mgO m.mg 2 3 4 5)))],[.blk 52 (.c (mgA m)),.blk 48 (.c (mgA zeroR)),.own 3 (.i64 m.ids.l),.own 41 (.u64 m.ns.l),.onn 115 2 (.c (pcs m.ps.l)),.own 111 (.u32 m.xs.l)]⟩ (by kernel_rfl) (by kernel_rfl) (by simp (maxSteps:=10^6) only[fb,zb,push_cast,Nat.reduceAdd]) ?_ ?_ (by decide) ?_ ?_ ?_
 ·simp (maxSteps:=10^6) only[fl,f0,f1,f2,f3,f4,f5,f38,f39,f40,f41,f42,fs,undef,push_cast,↓reduceIte,reduceCtorEq,Nat.reduceEqDiff,Nat.reduceLT,Nat.reduceLeDiff,Nat.reduceAdd]
  refine⟨[],?_⟩
  rw[M6]
  simp (maxSteps:=10^6) only[fb,zb,↓A7,List.append_nil,List.range,List.range.loop,push_cast,↓reduceIte,reduceCtorEq,Nat.reduceEqDiff,Nat.reduceLT,Nat.reduceAdd]
 ·intro v hv
  have hv':v=0∨v=1∨v=2∨v=3∨v=4∨v=5∨v=6∨v=7∨v=8∨v=9∨v=10∨v=11∨v=12∨v=13∨v=14∨v=15∨v=16:=by omega
  rcases hv' with rfl|rfl|rfl|rfl|rfl|rfl|rfl|rfl|rfl|rfl|rfl|rfl|rfl|rfl|rfl|rfl|rfl
  ·rw[M6];rfl
  ·rw[M7];rfl
  ·rw[Rc];rfl
  ·rw[Rd];rfl
  ·rw[Re];rfl
  ·rw[M8];rfl
  ·rw[M9];rfl
  ·rw[Rf];rfl
  ·rw[Na];rfl
  ·rw[Rg];rfl
  ·rw[Nb];rfl
  ·rw[Rh];rfl
  ·rw[Nc];rfl
  ·rw[U8];rfl
  ·rw[Ri];rfl
  ·rw[Rj];rfl
  ·rw[U9];rfl
 ·refine A4y ?_
  refine⟨?_,?_,?_,?_,?_,?_,?_,?_,?_,?_,?_,?_,?_,?_,?_,?_,?_,trivial⟩
  ·intro p hp
   simp only[List.mem_cons,List.not_mem_nil,or_false] at hp
   rcases hp with rfl|rfl|rfl
   ·show Bx _ _ _ _ _ 14 (fun s'=>LeA 2 s' (gvF m 1)) (gvF m 0)
    rw[M7,M6]
    simp (maxSteps:=10^6) only[fb,zb,SlV.val,push_cast,↓reduceIte,Nat.reduceLT,Nat.reduceLeDiff,Nat.reduceAdd]
    refine⟨[2],?_⟩
    simp (maxSteps:=10^6) only[fb,zb,↓A7,List.range,List.range.loop,List.nil_append,List.cons_append,push_cast,↓reduceIte,reduceCtorEq,Nat.reduceEqDiff,Nat.reduceLT,Nat.reduceAdd]
   ·show Bx _ _ _ _ _ 18 (fun s'=>LeA 2 s' (gvF m 2)) (gvF m 0)
    rw[Rc,M6]
    simp (maxSteps:=10^6) only[fb,zb,SlV.val,push_cast,↓reduceIte,Nat.reduceLT,Nat.reduceLeDiff,Nat.reduceAdd]
    refine⟨[2],?_⟩
    simp (maxSteps:=10^6) only[fb,zb,↓A7,List.range,List.range.loop,List.nil_append,List.cons_append,push_cast,↓reduceIte,reduceCtorEq,Nat.reduceEqDiff,Nat.reduceLT,Nat.reduceAdd]
   ·show Bx _ _ _ _ _ 25 (fun s'=>LeA 2 s' (gvF m 3)) (gvF m 0)
    rw[Rd,M6]
    simp (maxSteps:=10^6) only[fb,zb,SlV.val,push_cast,↓reduceIte,Nat.reduceLT,Nat.reduceLeDiff,Nat.reduceAdd]
    refine⟨[2],?_⟩
    simp (maxSteps:=10^6) only[fb,zb,↓A7,List.range,List.range.loop,List.nil_append,List.cons_append,push_cast,↓reduceIte,reduceCtorEq,Nat.reduceEqDiff,Nat.reduceLT,Nat.reduceAdd]
  ·intro p hp
   simp only[List.mem_cons,List.not_mem_nil,or_false] at hp
   rcases hp with rfl|rfl|rfl
   ·show Bx _ _ _ _ _ 17 (fun s'=>LeA 2 s' (gvF m 4)) (gvF m 1)
    rw[Re,M7]
    simp (maxSteps:=10^6) only[fb,zb,SlV.val,i1,i2,bi,ci,push_cast,↓reduceIte,Nat.reduceEqDiff,Nat.reduceLT,Nat.reduceAdd]
    refine⟨[3],?_⟩
    simp (maxSteps:=10^6) only[fb,zb,↓A7,List.range,List.range.loop,List.nil_append,List.cons_append,push_cast,↓reduceIte,reduceCtorEq,Nat.reduceEqDiff,Nat.reduceLT,Nat.reduceAdd]
   ·show Bx _ _ _ _ _ 18 (fun s'=>LeA 2 s' (gvF m 5)) (gvF m 1)
    rw[M8,M7]
    simp (maxSteps:=10^6) only[fb,zb,SlV.val,push_cast,↓reduceIte,Nat.reduceLT,Nat.reduceLeDiff,Nat.reduceAdd]
    refine⟨[2,3],?_⟩
    simp (maxSteps:=10^6) only[fb,zb,↓A7,List.range,List.range.loop,List.nil_append,List.cons_append,push_cast,↓reduceIte,reduceCtorEq,Nat.reduceEqDiff,Nat.reduceLT,Nat.reduceAdd]
   ·show Bx _ _ _ _ _ 25 (fun s'=>LeA 2 s' (gvF m 6)) (gvF m 1)
    rw[M9,M7]
    simp (maxSteps:=10^6) only[fb,zb,SlV.val,push_cast,↓reduceIte,Nat.reduceLT,Nat.reduceLeDiff,Nat.reduceAdd]
    refine⟨[2,3],?_⟩
    simp (maxSteps:=10^6) only[fb,zb,↓A7,List.range,List.range.loop,List.nil_append,List.cons_append,push_cast,↓reduceIte,reduceCtorEq,Nat.reduceEqDiff,Nat.reduceLT,Nat.reduceAdd]
  ·intro p hp
   simp only[List.mem_cons,List.not_mem_nil,or_false] at hp
   rcases hp with rfl|rfl
   ·show Bx _ _ _ _ _ 14 (fun s'=>LeA 2 s' (gvF m 5)) (gvF m 2)
    rw[M8,Rc]
    simp (maxSteps:=10^6) only[fb,zb,SlV.val,push_cast,↓reduceIte,Nat.reduceLT,Nat.reduceLeDiff,Nat.reduceAdd]
    refine⟨[3,2],?_⟩
    simp (maxSteps:=10^6) only[fb,zb,↓A7,List.range,List.range.loop,List.nil_append,List.cons_append,push_cast,↓reduceIte,reduceCtorEq,Nat.reduceEqDiff,Nat.reduceLT,Nat.reduceAdd]
   ·show Bx _ _ _ _ _ 25 (fun s'=>LeA 2 s' (gvF m 7)) (gvF m 2)
    rw[Rf,Rc]
    simp (maxSteps:=10^6) only[fb,zb,SlV.val,push_cast,↓reduceIte,Nat.reduceLT,Nat.reduceLeDiff,Nat.reduceAdd]
    refine⟨[2,3],?_⟩
    simp (maxSteps:=10^6) only[fb,zb,↓A7,List.range,List.range.loop,List.nil_append,List.cons_append,push_cast,↓reduceIte,reduceCtorEq,Nat.reduceEqDiff,Nat.reduceLT,Nat.reduceAdd]
  ·intro p hp
   simp only[List.mem_cons,List.not_mem_nil,or_false] at hp
   rcases hp with rfl|rfl
   ·show Bx _ _ _ _ _ 14 (fun s'=>LeA 2 s' (gvF m 6)) (gvF m 3)
    rw[M9,Rd]
    simp (maxSteps:=10^6) only[fb,zb,SlV.val,push_cast,↓reduceIte,Nat.reduceLT,Nat.reduceLeDiff,Nat.reduceAdd]
    refine⟨[3,2],?_⟩
    simp (maxSteps:=10^6) only[fb,zb,↓A7,List.range,List.range.loop,List.nil_append,List.cons_append,push_cast,↓reduceIte,reduceCtorEq,Nat.reduceEqDiff,Nat.reduceLT,Nat.reduceAdd]
   ·show Bx _ _ _ _ _ 18 (fun s'=>LeA 2 s' (gvF m 7)) (gvF m 3)
    rw[Rf,Rd]
    simp (maxSteps:=10^6) only[fb,zb,SlV.val,push_cast,↓reduceIte,Nat.reduceLT,Nat.reduceLeDiff,Nat.reduceAdd]
    refine⟨[3,2],?_⟩
    simp (maxSteps:=10^6) only[fb,zb,↓A7,List.range,List.range.loop,List.nil_append,List.cons_append,push_cast,↓reduceIte,reduceCtorEq,Nat.reduceEqDiff,Nat.reduceLT,Nat.reduceAdd]
  ·intro p hp
   simp only[List.mem_cons,List.not_mem_nil,or_false] at hp
   rcases hp with rfl|rfl
   ·show Bx _ _ _ _ _ 18 (fun s'=>LeA 2 s' (gvF m 8)) (gvF m 4)
    rw[Na,Re]
    simp (maxSteps:=10^6) only[fb,zb,SlV.val,push_cast,↓reduceIte,Nat.reduceLT,Nat.reduceLeDiff,Nat.reduceAdd]
    refine⟨[2,3],?_⟩
    simp (maxSteps:=10^6) only[fb,zb,↓A7,List.range,List.range.loop,List.nil_append,List.cons_append,push_cast,↓reduceIte,reduceCtorEq,Nat.reduceEqDiff,Nat.reduceLT,Nat.reduceAdd]
   ·show Bx _ _ _ _ _ 25 (fun s'=>LeA 2 s' (gvF m 9)) (gvF m 4)
    rw[Rg,Re]
    simp (maxSteps:=10^6) only[fb,zb,SlV.val,push_cast,↓reduceIte,Nat.reduceLT,Nat.reduceLeDiff,Nat.reduceAdd]
    refine⟨[2,3],?_⟩
    simp (maxSteps:=10^6) only[fb,zb,↓A7,List.range,List.range.loop,List.nil_append,List.cons_append,push_cast,↓reduceIte,reduceCtorEq,Nat.reduceEqDiff,Nat.reduceLT,Nat.reduceAdd]
  ·intro p hp
   simp only[List.mem_cons,List.not_mem_nil,or_false] at hp
   rcases hp with rfl|rfl
   ·show Bx _ _ _ _ _ 17 (fun s'=>LeA 2 s' (gvF m 8)) (gvF m 5)
    rw[Na,M8]
    simp (maxSteps:=10^6) only[fb,zb,SlV.val,i1,i2,bi,ci,push_cast,↓reduceIte,Nat.reduceEqDiff,Nat.reduceLT,Nat.reduceAdd]
    refine⟨[4,3],?_⟩
    simp (maxSteps:=10^6) only[fb,zb,↓A7,List.range,List.range.loop,List.nil_append,List.cons_append,push_cast,↓reduceIte,reduceCtorEq,Nat.reduceEqDiff,Nat.reduceLT,Nat.reduceAdd]
   ·show Bx _ _ _ _ _ 25 (fun s'=>LeA 2 s' (gvF m 10)) (gvF m 5)
    rw[Nb,M8]
    simp (maxSteps:=10^6) only[fb,zb,SlV.val,push_cast,↓reduceIte,Nat.reduceLT,Nat.reduceLeDiff,Nat.reduceAdd]
    refine⟨[2,3,4],?_⟩
    simp (maxSteps:=10^6) only[fb,zb,↓A7,List.range,List.range.loop,List.nil_append,List.cons_append,push_cast,↓reduceIte,reduceCtorEq,Nat.reduceEqDiff,Nat.reduceLT,Nat.reduceAdd]
  ·intro p hp
   simp only[List.mem_cons,List.not_mem_nil,or_false] at hp
   rcases hp with rfl|rfl
   ·show Bx _ _ _ _ _ 17 (fun s'=>LeA 2 s' (gvF m 9)) (gvF m 6)
    rw[Rg,M9]
    simp (maxSteps:=10^6) only[fb,zb,SlV.val,i1,i2,bi,ci,push_cast,↓reduceIte,Nat.reduceEqDiff,Nat.reduceLT,Nat.reduceAdd]
    refine⟨[4,3],?_⟩
    simp (maxSteps:=10^6) only[fb,zb,↓A7,List.range,List.range.loop,List.nil_append,List.cons_append,push_cast,↓reduceIte,reduceCtorEq,Nat.reduceEqDiff,Nat.reduceLT,Nat.reduceAdd]
   ·show Bx _ _ _ _ _ 18 (fun s'=>LeA 2 s' (gvF m 10)) (gvF m 6)
    rw[Nb,M9]
    simp (maxSteps:=10^6) only[fb,zb,SlV.val,push_cast,↓reduceIte,Nat.reduceLT,Nat.reduceLeDiff,Nat.reduceAdd]
    refine⟨[2,4,3],?_⟩
    simp (maxSteps:=10^6) only[fb,zb,↓A7,List.range,List.range.loop,List.nil_append,List.cons_append,push_cast,↓reduceIte,reduceCtorEq,Nat.reduceEqDiff,Nat.reduceLT,Nat.reduceAdd]
  ·intro p hp
   simp only[List.mem_cons,List.not_mem_nil,or_false] at hp
   rcases hp with rfl
   ·show Bx _ _ _ _ _ 14 (fun s'=>LeA 2 s' (gvF m 10)) (gvF m 7)
    rw[Nb,Rf]
    simp (maxSteps:=10^6) only[fb,zb,SlV.val,push_cast,↓reduceIte,Nat.reduceLT,Nat.reduceLeDiff,Nat.reduceAdd]
    refine⟨[4,2,3],?_⟩
    simp (maxSteps:=10^6) only[fb,zb,↓A7,List.range,List.range.loop,List.nil_append,List.cons_append,push_cast,↓reduceIte,reduceCtorEq,Nat.reduceEqDiff,Nat.reduceLT,Nat.reduceAdd]
  ·intro p hp
   simp only[List.mem_cons,List.not_mem_nil,or_false] at hp
   rcases hp with rfl|rfl
   ·show Bx _ _ _ _ _ 21 (fun s'=>LeA 2 s' (gvF m 11)) (gvF m 8)
    rw[Rh,Na]
    simp (maxSteps:=10^6) only[fb,zb,SlV.val,n1,n2,bn,cn,push_cast,↓reduceIte,Nat.reduceEqDiff,Nat.reduceLT,Nat.reduceAdd]
    refine⟨[2,4],?_⟩
    simp (maxSteps:=10^6) only[fb,zb,↓A7,List.range,List.range.loop,List.nil_append,List.cons_append,push_cast,↓reduceIte,reduceCtorEq,Nat.reduceEqDiff,Nat.reduceLT,Nat.reduceAdd]
   ·show Bx _ _ _ _ _ 25 (fun s'=>LeA 2 s' (gvF m 12)) (gvF m 8)
    rw[Nc,Na]
    simp (maxSteps:=10^6) only[fb,zb,SlV.val,push_cast,↓reduceIte,Nat.reduceLT,Nat.reduceLeDiff,Nat.reduceAdd]
    refine⟨[2,3,4],?_⟩
    simp (maxSteps:=10^6) only[fb,zb,↓A7,List.range,List.range.loop,List.nil_append,List.cons_append,push_cast,↓reduceIte,reduceCtorEq,Nat.reduceEqDiff,Nat.reduceLT,Nat.reduceAdd]
  ·intro p hp
   simp only[List.mem_cons,List.not_mem_nil,or_false] at hp
   rcases hp with rfl
   ·show Bx _ _ _ _ _ 18 (fun s'=>LeA 2 s' (gvF m 12)) (gvF m 9)
    rw[Nc,Rg]
    simp (maxSteps:=10^6) only[fb,zb,SlV.val,push_cast,↓reduceIte,Nat.reduceLT,Nat.reduceLeDiff,Nat.reduceAdd]
    refine⟨[2,4,3],?_⟩
    simp (maxSteps:=10^6) only[fb,zb,↓A7,List.range,List.range.loop,List.nil_append,List.cons_append,push_cast,↓reduceIte,reduceCtorEq,Nat.reduceEqDiff,Nat.reduceLT,Nat.reduceAdd]
  ·intro p hp
   simp only[List.mem_cons,List.not_mem_nil,or_false] at hp
   rcases hp with rfl
   ·show Bx _ _ _ _ _ 17 (fun s'=>LeA 2 s' (gvF m 12)) (gvF m 10)
    rw[Nc,Nb]
    simp (maxSteps:=10^6) only[fb,zb,SlV.val,i1,i2,bi,ci,push_cast,↓reduceIte,Nat.reduceEqDiff,Nat.reduceLT,Nat.reduceAdd]
    refine⟨[5,3,4],?_⟩
    simp (maxSteps:=10^6) only[fb,zb,↓A7,List.range,List.range.loop,List.nil_append,List.cons_append,push_cast,↓reduceIte,reduceCtorEq,Nat.reduceEqDiff,Nat.reduceLT,Nat.reduceAdd]
  ·intro p hp
   simp only[List.mem_cons,List.not_mem_nil,or_false] at hp
   rcases hp with rfl|rfl
   ·show Bx _ _ _ _ _ 24 (fun s'=>LeA 2 s' (gvF m 13)) (gvF m 11)
    rw[U8,Rh]
    simp (maxSteps:=10^6) only[SlV.val,push_cast,↓reduceIte]
    (repeat (refine And.intro (by first|omega|decide) ?_))
    refine Abj rfl Yb rfl (Abq (l:=m.ps.l) hpf (Il hm.ps.rd hm.ps.len) (by simp (maxSteps:=10^6) only[fb,zb,push_cast,Nat.reduceAdd])) (Af rfl) (fun _=>by simp (maxSteps:=10^6) only[fb,zb,push_cast,Nat.reduceLT,Nat.reduceAdd]) ?_
    refine⟨[2,3,4],?_⟩
    simp (maxSteps:=10^6) only[fb,zb,Jt,Gw,↓A7,List.range,List.range.loop,List.nil_append,List.cons_append,push_cast,↓reduceIte,reduceCtorEq,Nat.reduceEqDiff,Nat.reduceLT,Nat.reduceAdd]
   ·show Bx _ _ _ _ _ 25 (fun s'=>LeA 2 s' (gvF m 14)) (gvF m 11)
    rw[Ri,Rh]
    simp (maxSteps:=10^6) only[fb,zb,SlV.val,push_cast,↓reduceIte,Nat.reduceLT,Nat.reduceLeDiff,Nat.reduceAdd]
    refine⟨[2,3,4],?_⟩
    simp (maxSteps:=10^6) only[fb,zb,↓A7,List.range,List.range.loop,List.nil_append,List.cons_append,push_cast,↓reduceIte,reduceCtorEq,Nat.reduceEqDiff,Nat.reduceLT,Nat.reduceAdd]
  ·intro p hp
   simp only[List.mem_cons,List.not_mem_nil,or_false] at hp
   rcases hp with rfl
   ·show Bx _ _ _ _ _ 21 (fun s'=>LeA 2 s' (gvF m 14)) (gvF m 12)
    rw[Ri,Nc]
    simp (maxSteps:=10^6) only[fb,zb,SlV.val,n1,n2,bn,cn,push_cast,↓reduceIte,Nat.reduceEqDiff,Nat.reduceLT,Nat.reduceAdd]
    refine⟨[2,5,4],?_⟩
    simp (maxSteps:=10^6) only[fb,zb,↓A7,List.range,List.range.loop,List.nil_append,List.cons_append,push_cast,↓reduceIte,reduceCtorEq,Nat.reduceEqDiff,Nat.reduceLT,Nat.reduceAdd]
  ·intro p hp
   simp only[List.mem_cons,List.not_mem_nil,or_false] at hp
   rcases hp with rfl
   ·show Bx _ _ _ _ _ 25 (fun s'=>LeA 2 s' (gvF m 15)) (gvF m 13)
    rw[Rj,U8]
    simp (maxSteps:=10^6) only[fb,zb,Gw,SlV.val,push_cast,↓reduceIte,Nat.reduceLT,Nat.reduceLeDiff,Nat.reduceAdd]
    refine⟨[2,3,4,5],?_⟩
    simp (maxSteps:=10^6) only[fb,zb,Jt,Gw,↓A7,List.range,List.range.loop,List.nil_append,List.cons_append,push_cast,↓reduceIte,reduceCtorEq,Nat.reduceEqDiff,Nat.reduceLT,Nat.reduceAdd]
  ·intro p hp
   simp only[List.mem_cons,List.not_mem_nil,or_false] at hp
   rcases hp with rfl
   ·show Bx _ _ _ _ _ 24 (fun s'=>LeA 2 s' (gvF m 15)) (gvF m 14)
    rw[Rj,Ri]
    simp (maxSteps:=10^6) only[SlV.val,push_cast,↓reduceIte]
    (repeat (refine And.intro (by first|omega|decide) ?_))
    refine Abj rfl Yb rfl (Abq (l:=m.ps.l) hpf (Il hm.ps.rd hm.ps.len) (by simp (maxSteps:=10^6) only[fb,zb,push_cast,Nat.reduceAdd])) (Af rfl) (fun _=>by simp (maxSteps:=10^6) only[fb,zb,push_cast,Nat.reduceLT,Nat.reduceAdd]) ?_
    refine⟨[2,3,5,4],?_⟩
    simp (maxSteps:=10^6) only[fb,zb,Jt,Gw,↓A7,List.range,List.range.loop,List.nil_append,List.cons_append,push_cast,↓reduceIte,reduceCtorEq,Nat.reduceEqDiff,Nat.reduceLT,Nat.reduceAdd]
  ·intro p hp
   simp only[List.mem_cons,List.not_mem_nil,or_false] at hp
   rcases hp with rfl
   ·show Bx _ _ _ _ _ 28 (fun s'=>LeA 2 s' (gvF m 16)) (gvF m 15)
    rw[U9,Rj]
    simp (maxSteps:=10^6) only[fb,zb,Gw,SlV.val,x1,x2,bx,cx,push_cast,↓reduceIte,Nat.reduceEqDiff,Nat.reduceLT,Nat.reduceAdd]
    refine⟨[2,3,4,6],?_⟩
    simp (maxSteps:=10^6) only[fb,zb,Jt,Gw,↓A7,List.range,List.range.loop,List.nil_append,List.cons_append,push_cast,↓reduceIte,reduceCtorEq,Nat.reduceEqDiff,Nat.reduceLT,Nat.reduceAdd]
  ·intro p hp
   cases hp
 ·rw[U9]
  have l6:=A5f m
  have l7:=A5g hm.s
  have t6:(List.take 6 (gv6 m)).length=6:=by rw[List.length_take,l6];rfl
  have d6:(List.drop 38 (gv6 m)).length=5:=by rw[List.length_drop,l6]
  have e6:=A5d m
  have e7:=A5e m
  have e8:=A5h hm.s
  simp (maxSteps:=10^6) only[hfs,B6,Cq,B9,Ck,e6,e7,e8,l6,l7,List.length_set,push_cast,↓reduceIte,reduceCtorEq,Nat.reduceEqDiff,Nat.reduceLT,Nat.reduceLeDiff,Nat.reduceAdd]
  refine Fc [0,1,2,3,4,5] ?_
  simp (maxSteps:=10^6) only[fb,zb,ob,Jt,Gw,↓A7,↓Aaj,push_cast,↓reduceIte,reduceCtorEq,Nat.reduceEqDiff,Nat.reduceLT,Nat.reduceAdd]
  done
 ·have ol:=A1h (m:=m.mg) (a:=2) (b:=3) (c:=4) (d:=5) hm.s
  simp (maxSteps:=10^6) only[Ck,ol,undef,push_cast,↓reduceIte,Nat.reduceEqDiff,Nat.reduceLT,Nat.reduceAdd]
  refine⟨cast (A1i m.mg 2 3 4 5 _).symm ⟨rfl,rfl,rfl,rfl⟩,Fp [2,3,4,5] ?_⟩
  simp (maxSteps:=10^6) only[ob,Jt,Gw,↓Aaj,push_cast,↓reduceIte,Nat.reduceEqDiff,Nat.reduceLT,Nat.reduceAdd]
  done
end
end Go.Proofs.YtedaafmfjhjfmaaGreatDoor
