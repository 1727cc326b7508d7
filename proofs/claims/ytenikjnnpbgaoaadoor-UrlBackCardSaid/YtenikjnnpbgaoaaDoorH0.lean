/- The hand-made contracts that need nothing printed. -/
import Derived.Test.YtenikjnnpbgaoaaDoorH0c
import Derived.Test.YtenikjnnpbgaoaaDoorH0d
import Derived.Test.YtenikjnnpbgaoaaDoorH0e
import Derived.Test.YtenikjnnpbgaoaaDoorBld
