/- What the program's types are, each asked of the loaded program. -/
import Derived.Test.YtkgemkadebgeoaaAbs25
import Derived.Test.YtkgemkadebgeoaaProg
import Derived.KernelRfl
namespace Go.Proofs.Ytkgemkadebgeoaa
namespace A
end A
end Go.Proofs.Ytkgemkadebgeoaa
